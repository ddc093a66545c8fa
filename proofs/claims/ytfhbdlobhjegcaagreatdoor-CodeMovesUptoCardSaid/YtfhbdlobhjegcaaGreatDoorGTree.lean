import Derived.Test.YtfhbdlobhjegcaaGreatDoorGBase
import Derived.Test.YtfhbdlobhjegcaaGreatDoorGShape
import Derived.Maps.AppendAt
import Derived.Deep.RegionHeld3
import Derived.Test.YtfhbdlobhjegcaaGreatDoorRows
namespace Go.Proofs.YtfhbdlobhjegcaaGreatDoor
open Go.RowKit Go.ChangeShapes Go.WideShapes Go.Deep
set_option linter.unusedVariables false
set_option maxRecDepth 20000
inductive Dt where
 | mk (k n : Int) (s : ByteArray) (l : List Dt)
def Dt.k : Dt -> Int | .mk k _ _ _ => k
def Dt.n : Dt -> Int | .mk _ n _ _ => n
def Dt.s : Dt -> ByteArray | .mk _ _ s _ => s
def Dt.l : Dt -> List Dt | .mk _ _ _ l => l
def dt0 : Dt := .mk 0 0 ⟨#[]⟩ []
inductive Ex where
 | mk (kind : Int) (d : Dt) (s : ByteArray) (n : Int) (names : List ByteArray) (args : List Ex)
inductive Fd (α : Type) where
 | ok (x : α)
 | err (e : Int)
def Good : Nat -> Dt -> Prop
 | 0, _ => False
 | r + 1, d => ((1 <= d.k /\ d.k <= 4) /\ (d.k = 3 -> nameB d.s.data.toList = true) /\ d.s.size <= maxLen /\ d.l.length <= 1048576) /\ ∀ x ∈ d.l, Good r x
theorem Good.up : {r : Nat} -> {d : Dt} -> Good r d -> Good (r + 1) d
 | 0, _, h => h.elim
 | r + 1, d, h => ⟨h.1, fun x hx => (h.2 x hx).up⟩
theorem Good.item {r : Nat} {d x : Dt} (h : Good (r + 1) d) (hx : x ∈ d.l) : Good r x := h.2 x hx
theorem Good.low {r : Nat} {d x : Dt} (h : Good r d) (hx : x ∈ d.l) : Good r x := by
 cases r with
 | zero => exact h.elim
 | succ r => exact (h.item hx).up
theorem Good.head {r : Nat} {d : Dt} (h : Good r d) : (1 <= d.k /\ d.k <= 4) /\ (d.k = 3 -> nameB d.s.data.toList = true) /\ d.s.size <= maxLen /\ d.l.length <= 1048576 := by
 cases r with
 | zero => exact h.elim
 | succ r => exact h.1
theorem Good.kind {r : Nat} {d : Dt} (h : Good r d) : 1 <= d.k /\ d.k <= 4 := h.head.1
theorem Good.name {r : Nat} {d : Dt} (h : Good r d) (hk : d.k = 3) : nameB d.s.data.toList = true := h.head.2.1 hk
theorem Good.wide {r : Nat} {d : Dt} (h : Good r d) : d.s.size <= maxLen := h.head.2.2.1
theorem Good.len {r : Nat} {d : Dt} (h : Good r d) : d.l.length <= 1048576 := h.head.2.2.2
def bindB (d : Dt) : Bool := d.k == 3 && (!isKw d.s.toList && decide (primN d.s.toList < 0))
theorem freeB_good {r : Nat} {d : Dt} (h : Good r d) (hk : d.k = 3) : freeB d.s = (!isKw d.s.toList && decide (primN d.s.toList < 0)) := by
 unfold freeB; rw [h.name hk]; rfl
def bindF : List ByteArray -> List Dt -> Fd (List ByteArray)
 | out, [] => .ok out
 | out, d :: l => if bindB d = true then (if inL out d.s = true then .err 7 else bindF (out ++ [d.s]) l) else .err 4
def boundF (k : Int) (l : List Dt) : Fd (List ByteArray) := if k = 4 then (if 6 < l.length then .err 10 else bindF [] l) else .err 4
theorem bindF_len : (l : List Dt) -> (out xs : List ByteArray) -> bindF out l = .ok xs -> xs.length = out.length + l.length
 | [], out, xs, h => by simp only [bindF] at h; cases h; simp
 | d :: l, out, xs, h => by
  simp only [bindF] at h
  split at h
  ·
   split at h
   ·
    cases h
   have := bindF_len l _ _ h
   simp at this ⊢
   omega
  cases h
theorem boundF_len {k : Int} {l : List Dt} {xs : List ByteArray} (h : boundF k l = .ok xs) : xs.length <= 6 := by
 unfold boundF at h
 split at h
 ·
  split at h
  ·
   cases h
  have := bindF_len _ _ _ h
  simp at this
  omega
 cases h
def allF (rec : Dt -> Fd Ex) : List Dt -> Fd (List Ex)
 | [] => .ok []
 | d :: l => match rec d with
  | .err e => .err e
  | .ok x => match allF rec l with
   | .err e => .err e
   | .ok xs => .ok (x :: xs)
theorem allF_append (rec : Dt -> Fd Ex) : (l m : List Dt) -> allF rec (l ++ m) = match allF rec l with
  | .err e => .err e
  | .ok xs => match allF rec m with
   | .err e => .err e
   | .ok ys => .ok (xs ++ ys)
 | [], m => by
  simp only [List.nil_append, allF]
  cases allF rec m <;> rfl
 | d :: l, m => by
  have h := allF_append rec l m
  simp only [List.cons_append, allF, h]
  cases rec d with
  | err e => rfl
  | ok x =>
   cases allF rec l with
   | err e => rfl
   | ok xs =>
    cases allF rec m <;> rfl
theorem allF_snoc_ok {rec : Dt -> Fd Ex} {l : List Dt} {d : Dt} {xs : List Ex} {x : Ex} (h : allF rec l = .ok xs) (hx : rec d = .ok x) : allF rec (l ++ [d]) = .ok (xs ++ [x]) := by
 rw [allF_append, h]; simp only [allF, hx]
theorem allF_snoc_err {rec : Dt -> Fd Ex} {l : List Dt} {d : Dt} {xs : List Ex} {e : Int} (h : allF rec l = .ok xs) (hx : rec d = .err e) (m : List Dt) : allF rec (l ++ d :: m) = .err e := by
 rw [allF_append, h]; simp only [allF, hx]
theorem allF_err {rec : Dt -> Fd Ex} {l : List Dt} {e : Int} (h : allF rec l = .err e) (m : List Dt) : allF rec (l ++ m) = .err e := by
 rw [allF_append, h]
theorem allF_len (rec : Dt -> Fd Ex) : (l : List Dt) -> (xs : List Ex) -> allF rec l = .ok xs -> xs.length = l.length
 | [], xs, h => by simp only [allF] at h; cases h; rfl
 | d :: l, xs, h => by
  simp only [allF] at h
  split at h
  ·
   cases h
  split at h
  ·
   cases h
  rename_i x _ _ ys hy
  have := allF_len rec l ys hy
  cases h
  simp [this]
structure Pl where
 globals : List ByteArray
 shapes : List (ByteArray × List ByteArray)
 old : List ByteArray
 up : Bool
def eC (d : Dt) : Ex := .mk 1 d ⟨#[]⟩ 0 [] []
def eK (k : Int) (s : ByteArray) (args : List Ex) : Ex := .mk k dt0 s 0 [] args
def mapF {α β : Type} (f : α -> β) : Fd α -> Fd β
 | .ok x => .ok (f x)
 | .err e => .err e
def namedF (p : Pl) (ls : List ByteArray) (s : ByteArray) : Fd Ex :=
 if inL ls s = true then .ok (eK 2 s [])
 else if isKw s.toList = true \/ 0 <= primN s.toList then .err 4
 else if p.up = true then .err 15
 else if inL p.globals s = true then .ok (eK 3 s [])
 else .err 6
def bodyF (rec : List ByteArray -> Dt -> Fd Ex) (ls : List ByteArray) (l : List Dt) : Fd Ex :=
 match l with
 | [] => .err 10
 | d :: m => if 40 < ls.length then .err 1 else match m with
  | [] => rec ls d
  | _ :: _ => mapF (eK 7 ⟨#[]⟩) (allF (rec ls) l)
def opF (nm : ByteArray) (fs : List ByteArray) (s : ByteArray) (n : Nat) : Option (Int × Nat × List ByteArray) :=
 if s.toList = nm.toList then some (11, n, [])
 else if s.toList = nm.toList ++ [63] then some (12, 1, [])
 else match fs.find? (fun f => s.toList == nm.toList ++ 45 :: f.toList) with
  | some f => some (13, 1, [f])
  | none => match fs.find? (fun f => s.toList == nm.toList ++ 45 :: (f.toList ++ [33])) with
   | some f => some (14, 2, [f])
   | none => none
def recF (rec : Dt -> Fd Ex) (s : ByteArray) (rest : List Dt) : List (ByteArray × List ByteArray) -> Fd Ex
 | [] => .err 6
 | r :: sh => match opF r.1 r.2 s rest.length with
  | none => recF rec s rest sh
  | some (k, want, names) => if want ≠ rest.length \/ 6 < want then .err 10 else mapF (fun xs => .mk k dt0 r.1 0 names xs) (allF rec rest)
def wQuote : List UInt8 := [113, 117, 111, 116, 101]
def wIf : List UInt8 := [105, 102]
def wLet : List UInt8 := [108, 101, 116]
def wLambda : List UInt8 := [108, 97, 109, 98, 100, 97]
def wBegin : List UInt8 := [98, 101, 103, 105, 110]
def wSet : List UInt8 := [115, 101, 116, 33]
def wWas : List UInt8 := [119, 97, 115]
def wRecord : List UInt8 := [114, 101, 99, 111, 114, 100]
def wDefine : List UInt8 := [100, 101, 102, 105, 110, 101]
def wUpgrade : List UInt8 := [117, 112, 103, 114, 97, 100, 101]
def twoB (d : Dt) : Bool := d.k == 4 && d.l.length == 2
def firstD (d : Dt) : Dt := d.l.headD dt0
def secondD (d : Dt) : Dt := d.l.tail.headD dt0
def letF (rec : List ByteArray -> Dt -> Fd Ex) (ls : List ByteArray) : List Dt -> Fd Ex
 | h :: b :: m =>
  if h.l.all twoB = true then match boundF h.k (h.l.map firstD) with
   | .err e => .err e
   | .ok ns => match allF (rec ls) (h.l.map secondD) with
    | .err e => .err e
    | .ok xs => mapF (fun y => .mk 5 dt0 ⟨#[]⟩ 0 ns (xs ++ [y])) (bodyF rec (ls ++ ns) (b :: m))
  else .err 4
 | _ => .err 10
def lambdaF (rec : List ByteArray -> Dt -> Fd Ex) (ls : List ByteArray) : List Dt -> Fd Ex
 | h :: b :: m => match boundF h.k h.l with
  | .err e => .err e
  | .ok ns => mapF (fun y => .mk 6 dt0 ⟨#[]⟩ 0 ns [y]) (bodyF rec (ls ++ ns) (b :: m))
 | _ => .err 10
def setF (p : Pl) (rec : List ByteArray -> Dt -> Fd Ex) (ls : List ByteArray) : List Dt -> Fd Ex
 | [h, b] => if h.k = 3 then match namedF p ls h.s with
   | .err e => .err e
   | .ok _ => mapF (fun y => .mk 8 dt0 h.s (if inL ls h.s = true then 1 else 0) [] [y]) (rec ls b)
  else .err 4
 | _ => .err 10
def wasF (p : Pl) : List Dt -> Fd Ex
 | [h] => if p.up = true /\ h.k = 3 then (if idxL p.old h.s < 0 then .err 6 else .ok (.mk 15 dt0 ⟨#[]⟩ (idxL p.old h.s) [] [])) else .err 4
 | _ => .err 4
def wordF (p : Pl) (rec : List ByteArray -> Dt -> Fd Ex) (ls : List ByteArray) (w : List UInt8) (rest : List Dt) : Fd Ex :=
 if p.up = true /\ w ≠ wQuote /\ w ≠ wIf /\ w ≠ wWas then .err 15
 else if w = wQuote then (match rest with | [d] => .ok (eC d) | _ => .err 10)
 else if w = wIf then (if rest.length = 3 then mapF (eK 4 ⟨#[]⟩) (allF (rec ls) rest) else .err 10)
 else if w = wLet then letF rec ls rest
 else if w = wLambda then lambdaF rec ls rest
 else if w = wBegin then bodyF rec ls rest
 else if w = wSet then setF p rec ls rest
 else if w = wWas then wasF p rest
 else .err 4
def callF (p : Pl) (rec : Dt -> Fd Ex) (l : List Dt) : Fd Ex :=
 if p.up = true then .err 15 else if 7 < l.length then .err 10 else mapF (eK 9 ⟨#[]⟩) (allF rec l)
def formF (p : Pl) (rec : List ByteArray -> Dt -> Fd Ex) (ls : List ByteArray) (d : Dt) : Fd Ex :=
 if d.k = 1 \/ d.k = 2 then .ok (eC d)
 else if d.k = 3 then namedF p ls d.s
 else match d.l with
  | [] => .err 4
  | h :: rest =>
   if h.k ≠ 3 \/ inL ls h.s = true then callF p (rec ls) (h :: rest)
   else if isKw h.s.toList = true then wordF p rec ls h.s.toList rest
   else if 0 <= primN h.s.toList then (if primN h.s.toList = rest.length then mapF (eK 10 h.s) (allF (rec ls) rest) else .err 10)
   else if p.up = true then .err 15
   else if inL p.globals h.s = true then callF p (rec ls) (h :: rest)
   else recF (rec ls) h.s rest p.shapes
def formed (p : Pl) : Nat -> List ByteArray -> Dt -> Fd Ex
 | 0, _, _ => .err 0
 | n + 1, ls, d => formF p (formed p n) ls d
def headF (d : Dt) : Option (ByteArray × List Dt) := match d.l with
 | h :: b :: m => if d.k = 4 /\ h.k = 3 then some (h.s, b :: m) else none
 | _ => none
abbrev Sh := ByteArray × List ByteArray
def shapeT : List Dt -> Fd Sh
 | [] => .err 4
 | h :: fs => if bindB h = true then (if fs.all (fun x => x.k == 3) = true then (if shapeF h.s (fs.map Dt.s) = 0 then .ok (h.s, fs.map Dt.s) else .err (shapeF h.s (fs.map Dt.s))) else .err 4) else .err 4
def defT : List Dt -> Option ByteArray
 | [] => none
 | h :: m => if h.k = 4 then (match h.l with
   | [] => none
   | g :: _ => if bindB g = true /\ 1 <= m.length then some g.s else none)
  else if bindB h = true /\ m.length = 1 then some h.s else none
def zo (st : List Sh × List ByteArray) (d : Dt) : Fd (List Sh × List ByteArray) :=
 match headF d with
 | none => .err 4
 | some (w, rest) =>
  if w.toList = wRecord then (match shapeT rest with
   | .err e => .err e
   | .ok s => if inL (st.1.map (·.1)) s.1 = true then .err 7 else .ok (st.1 ++ [s], st.2))
  else if w.toList = wDefine then (match defT rest with
   | none => .err 4
   | some n => if inL st.2 n = true then .err 7 else .ok (st.1, st.2 ++ [n]))
  else if w.toList = wUpgrade then .ok st
  else .err 4
inductive Rn (α : Type) where
 | ok (x : α)
 | bad (i : Nat) (e : Int)
def runT {σ : Type} (f : σ -> Dt -> Fd σ) : σ -> Nat -> List Dt -> Rn σ
 | st, _, [] => .ok st
 | st, i, d :: l => match f st d with
  | .err e => .bad i e
  | .ok st' => runT f st' (i + 1) l
theorem runT_snoc_ok {σ : Type} {f : σ -> Dt -> Fd σ} : (l : List Dt) -> (st : σ) -> (i : Nat) -> (d : Dt) -> (a b : σ) -> runT f st i l = .ok a -> f a d = .ok b -> runT f st i (l ++ [d]) = .ok b
 | [], st, i, d, a, b, h, hd => by
  simp only [runT] at h
  cases h
  simp only [List.nil_append, runT, hd]
 | c :: l, st, i, d, a, b, h, hd => by
  cases hc : f st c with
  | err e => simp only [runT, hc] at h; cases h
  | ok st' =>
   simp only [runT, hc, List.cons_append] at h ⊢
   exact runT_snoc_ok l _ _ _ _ _ h hd
theorem runT_bad {σ : Type} {f : σ -> Dt -> Fd σ} : (l : List Dt) -> (st : σ) -> (i : Nat) -> (d : Dt) -> (m : List Dt) -> (a : σ) -> (e : Int) -> runT f st i l = .ok a -> f a d = .err e -> runT f st i (l ++ d :: m) = .bad (i + l.length) e
 | [], st, i, d, m, a, e, h, hd => by
  simp only [runT] at h
  cases h
  simp only [List.nil_append, runT, hd]
  rfl
 | c :: l, st, i, d, m, a, e, h, hd => by
  cases hc : f st c with
  | err e' => simp only [runT, hc] at h; cases h
  | ok st' =>
   simp only [runT, hc, List.cons_append] at h ⊢
   rw [runT_bad l _ _ _ _ _ _ h hd, List.length_cons]
   congr 1
   omega
def defX (p : Pl) : List Dt -> Fd Ex
 | h :: b :: m => if h.k = 3 then formed p 40 [] b else (match h.l with
   | [] => .err 4
   | _ :: ps => match boundF 4 ps with
    | .err e => .err e
    | .ok ns => mapF (fun y => .mk 6 dt0 ⟨#[]⟩ 0 ns [y]) (bodyF (formed p 40) ns (b :: m)))
 | _ => .err 4
def fieldsAt (l : List Sh) (s : ByteArray) : List ByteArray := (l.getD (idxL (l.map (·.1)) s).toNat (⟨#[]⟩, [])).2
def upX (vsh ush : List Sh) (ups : List (ByteArray × List Ex)) : List Dt -> Fd (ByteArray × List Ex)
 | [] => .err 6
 | h :: es =>
  if h.k = 3 /\ inL (vsh.map (·.1)) h.s = true /\ inL (ush.map (·.1)) h.s = true then
   if inL (ups.map (·.1)) h.s = true then .err 7
   else if es.length ≠ (fieldsAt ush h.s).length then .err 10
   else mapF (fun xs => (h.s, xs)) (allF (formed ⟨[], [], fieldsAt vsh h.s, true⟩ 40 []) es)
  else .err 6
abbrev Un := List (ByteArray × Ex) × List (ByteArray × List Ex)
def topT (p : Pl) (vsh ush : List Sh) (st : Un) (d : Dt) : Fd Un :=
 match headF d with
 | none => .ok st
 | some (w, rest) =>
  if w.toList = wDefine then mapF (fun x => (st.1 ++ [((defT rest).getD ⟨#[]⟩, x)], st.2)) (defX p rest)
  else if w.toList = wUpgrade then mapF (fun x => (st.1, st.2 ++ [x])) (upX vsh ush st.2 rest)
  else .ok st
def addNew (gs : List ByteArray) (n : ByteArray) : List ByteArray := if inL gs n = true then gs else gs ++ [n]
/- Rows of the call's own, and trees of data in memory (out of XTree). -/
open Go.RowKit Go.ChangeShapes Go.WideShapes Go.Deep Go.ChangeAt Go.Shelf
theorem zb {w w' : World} (hb : Below w.heap.size w w') (row : Option Nat) : w.grownBy w' row := ⟨hb.os, hb.tape, hb.output, hb.size, fun i hi _ => hb.block i hi⟩
theorem cells_lit {w : World} {e : TypeId} (cs : Array Value) (news : List Value) (hx : cs.toList = news) :
  ∀ j u, news[j]? = some u -> (w.alloc (.cells cs e)).cell? (Addr.add ⟨w.heap.size, 0, none⟩ j) = some u := by
 intro j u hj
 have h1 : (Addr.add ⟨w.heap.size, 0, none⟩ j) = ⟨w.heap.size, j, none⟩ := by unfold Addr.add; by_cases h0 : j = 0 <;> simp [h0]
 rw [h1, za]
 subst hx
 simpa using hj
theorem flatten_at {k : Nat} : (C : List (List Value)) -> (∀ c ∈ C, c.length = k) -> (i : Nat) -> (hi : i < C.length) -> (j : Nat) -> j < k -> C.flatten[i * k + j]? = C[i][j]?
 | c :: C, hk, 0, _, j, hj => by
  have h0 := hk c (by simp)
  simp only [List.flatten_cons, Nat.zero_mul, Nat.zero_add, List.getElem_cons_zero]
  exact List.getElem?_append_left (by omega)
 | c :: C, hk, i + 1, hi, j, hj => by
  have h0 := hk c (by simp)
  have h := flatten_at C (fun x hx => hk x (by simp [hx])) i (by simpa using hi) j hj
  simp only [List.flatten_cons, List.getElem_cons_succ]
  rw [List.getElem?_append_right (by rw [h0, Nat.add_mul]; omega), <- h]
  congr 1
  rw [h0, Nat.add_mul]
  omega
structure RowsF (w : World) (A : Option Addr) (len k : Nat) (C : List (List Value)) : Prop where
 size : C.length = len
 at_ : 0 < len -> ∃ b o, A = some ⟨b, o, none⟩ /\ b < w.heap.size /\ ∀ i, (h : i < C.length) -> C[i].length = k /\ RowAt w b (o + i * k) C[i]
theorem RowsF.below {w w' : World} {A : Option Addr} {len k : Nat} {C : List (List Value)} (h : RowsF w A len k C) (hb : Below w.heap.size w w') : RowsF w' A len k C :=
 ⟨h.size, fun h0 => by
  obtain ⟨b, o, rfl, hl, hc⟩ := h.at_ h0
  exact ⟨b, o, rfl, Nat.lt_of_lt_of_le hl hb.size, fun i hi => ⟨(hc i hi).1, (hc i hi).2.below hb hl⟩⟩⟩
theorem RowsF.drewN {w : World} {A : Option Addr} {len k : Nat} {C : List (List Value)} (h : RowsF w A len k C) (n : Nat) : RowsF (w.drewN n) A len k C := h.below (below_drewN (Below.refl _ _) n)
theorem ownsRow_form {w : World} {base : Nat} {t : TypeId} {k : Nat} {v : Value} {n : Nat} {C : List (List Value)} (h : w.ownsRow base t k v n C.flatten) (hn : C.length = n) (hk : ∀ c ∈ C, c.length = k) :
  ∃ A cap, v = .slice A n cap /\ n <= cap /\ cap <= maxLen /\ RowsF w A n k C /\ ∀ a, A = some a -> base <= a.block := by
 rcases h.2 with ⟨rfl, h0⟩ | ⟨g, cap, cur, hv, hg, hh, h1, h2, _⟩
 ·
  subst h0
  exact ⟨none, 0, rfl, by simp, by unfold maxLen; omega, ⟨hn, fun h => absurd h (by simp)⟩, fun a ha => by cases ha⟩
 ·
  have hrow := h
  rw [hv] at hrow
  refine ⟨some ⟨g, 0, none⟩, cap, hv, h1, h2, ⟨hn, fun h0 => ⟨g, 0, rfl, (Array.getElem?_eq_some_iff.1 hh).1, fun i hi => ⟨hk _ (List.getElem_mem hi), ?_⟩⟩⟩, fun a ha => by cases ha; exact hg⟩
  intro j hj
  rw [hk _ (List.getElem_mem hi)] at hj
  rw [Nat.zero_add, <- flatten_at C hk i hi j hj]
  refine hrow.cellAt (i * k + j) ?_
  rw [<- hn]
  have h1 : i * k + k <= C.length * k := by rw [<- Nat.succ_mul]; exact Nat.mul_le_mul_right k hi
  omega
structure Kit (α : Type) where
 k : Nat
 cells : α -> List Value
 len : ∀ x, (cells x).length = k
 one : ∀ x, ∀ u ∈ cells x, u.oneCell' = true
 ok : World -> α -> Prop
 uses : α -> Nat -> Prop
 lt : ∀ w x b, ok w x -> uses x b -> b < w.heap.size
 kept : ∀ w w' x row, ok w x -> w.grownBy w' row -> (∀ b, uses x b -> row ≠ some b) -> ok w' x
structure OwnAt {α : Type} (K : Kit α) (ty : TypeId) (base : Nat) (w : World) (v : Value) (X : List α) : Prop where
 row : w.ownsRow base ty K.k v X.length (X.map K.cells).flatten
 each : ∀ x ∈ X, K.ok w x
 from_ : ∀ x ∈ X, ∀ b, K.uses x b -> base <= b
 apart : ∀ x ∈ X, ∀ b, K.uses x b -> v.ownBlock ≠ some b
section
variable {α : Type} {K : Kit α} {ty : TypeId} {base : Nat}
theorem OwnAt.start (K : Kit α) (ty : TypeId) (base : Nat) (w : World) : OwnAt K ty base w (.slice none 0 0) [] := ⟨World.ownsRow_nil _ _ _ _, by simp, by simp, by simp⟩
theorem OwnAt.grown {w w' : World} {v : Value} {X : List α} {row : Option Nat} (h : OwnAt K ty base w v X) (hg : w.grownBy w' row) (hv : v.ownBlock = none \/ v.ownBlock ≠ row) (hx : ∀ x ∈ X, ∀ b, K.uses x b -> row ≠ some b) : OwnAt K ty base w' v X :=
 ⟨h.row.kept hg hv, fun x hx' => K.kept _ _ _ _ (h.each x hx') hg (hx x hx'), h.from_, h.apart⟩
theorem OwnAt.new {w w' : World} {v : Value} {X : List α} (h : OwnAt K ty base w v X) (hb : Below w.heap.size w w') : OwnAt K ty base w' v X :=
 h.grown (zb hb none) (by cases v.ownBlock <;> simp) (fun x hx b hb => by simp)
theorem OwnAt.other {w w' : World} {v : Value} {X : List α} {g : Nat} (h : OwnAt K ty base w v X) (hg : w.grownBy w' (some g)) (hlt : g < base) : OwnAt K ty base w' v X := by
 refine h.grown hg ?_ ?_
 ·
  cases hv : v.ownBlock with
  | none => exact Or.inl rfl
  | some b =>
   right
   intro e
   have := (h.row.lt b hv).1
   have := Option.some.inj e
   omega
 intro x hx b hb e
 have := h.from_ x hx b hb
 have := Option.some.inj e
 omega
theorem OwnAt.free {w : World} {v : Value} {X : List α} (h : OwnAt K ty base w v X) {b : Nat} (hk : w.heap.size <= b) : v.ownBlock ≠ some b := by
 intro e
 have := (h.row.lt b e).2
 omega
theorem OwnAt.form {w : World} {v : Value} {X : List α} (h : OwnAt K ty base w v X) : ∃ A cap, v = .slice A X.length cap /\ X.length <= cap /\ cap <= maxLen /\ RowsF w A X.length K.k (X.map K.cells) /\ ∀ a, A = some a -> base <= a.block :=
 ownsRow_form h.row (by simp) (fun c hc => by obtain ⟨x, _, rfl⟩ := List.mem_map.1 hc; exact K.len x)
end
theorem cells_litC {w : World} {e : TypeId} (cs : Array Value) (news : List Value) (hx : cs.toList = news) :
  ∀ j u, news[j]? = some u -> (w.alloc (.cells cs e)).cell? (Addr.add ⟨w.heap.size, 0, none⟩ j) = some u := cells_lit cs news hx
theorem wpList_own {α : Type} {K : Kit α} {ty : TypeId} {base bytes : Nat} {sl : TypeId} {i : TypeInfo} {z : Value} {ops : Array Oper} {rest : List Oper} {o : Oper} {act : Act} {Q : Exit -> Act -> World -> Prop} {w : World} (hgd : o.guard = none) (s y : Operand)
  (ho : o.op = .call { callee := .builtin .append, args := #[s, y], argTypes := #[sl, sl] })
  (ht : Tryz.prog.underlying sl = some (.slice ty)) (hi : Tryz.prog.info? ty = some i) (hz : i.zero = some z) (hsize : i.size = K.k) (hby : i.bytes = bytes) (hzs : z.cells.size = K.k) (hsz : 0 < K.k)
  {v : Value} {X : List α} (hO : OwnAt K ty base w v X) (x : α) (cs : Array Value) (hcs : cs.toList = K.cells x) (hx : K.ok w x) (hfrom : ∀ b, K.uses x b -> base <= b) (hap : ∀ b, K.uses x b -> v.ownBlock ≠ some b)
  (hs : act.eval s = v) (hy : act.eval y = .slice (some ⟨w.heap.size, 0, none⟩) 1 1) (hb : (X.length + 1) * bytes <= 140737488355328 /\ X.length + 1 <= maxLen) (hbase : base <= w.heap.size)
  (h : ∀ v' w', OwnAt K ty base w' v' (X ++ [x]) -> w.grownBy w' v.ownBlock -> (v'.ownBlock = v.ownBlock \/ ∃ b, v'.ownBlock = some b /\ w.heap.size <= b) -> wpList Tryz.prog ops Q rest (act.put o.dst v') w') : wpList Tryz.prog ops Q (o :: rest) act (w.alloc (.cells cs ty)) := by
 have hbl : Below w.heap.size w (w.alloc (.cells cs ty)) := (Below.refl w.heap.size w).alloc (Nat.le_refl _) _
 have hA := hO.new hbl
 have hxA : K.ok (w.alloc (.cells cs ty)) x := K.kept _ _ _ none hx (zb hbl none) (fun b _ => by simp)
 refine wpList_append_own_at _ hgd s y sl ho base ty i z K.k bytes ht hi hz hsize hby hzs hsz v X.length (X.map K.cells).flatten hs hA.row
  ⟨w.heap.size, 0, none⟩ 1 1 (K.cells x) hy (by rw [K.len]; omega) (cells_lit cs _ hcs) (K.one x) hb.2 hb.1 (Nat.le_trans hbase hbl.size) ?_
 intro v' w' h1 h2 _ h4
 have hga : w.grownBy w' v.ownBlock := (zb hbl v.ownBlock).trans h2
 have hv' : v'.ownBlock = v.ownBlock \/ ∃ b, v'.ownBlock = some b /\ w.heap.size <= b := by
  rcases h4 with h4 | h4
  ·
   exact Or.inl h4
  exact Or.inr ⟨_, h4, by simp⟩
 refine h v' w' ⟨?_, ?_, ?_, ?_⟩ hga hv'
 ·
  rw [List.map_append, List.flatten_append, List.length_append]
  simpa using h1
 ·
  intro y hy
  rcases List.mem_append.1 hy with hy | hy
  ·
   exact K.kept _ _ _ _ (hA.each y hy) h2 (hO.apart y hy)
  obtain rfl : y = x := by simpa using hy
  exact K.kept _ _ _ _ hxA h2 hap
 ·
  intro y hy
  rcases List.mem_append.1 hy with hy | hy
  ·
   exact hO.from_ y hy
  obtain rfl : y = x := by simpa using hy
  exact hfrom
 intro y hy b hb
 have hy2 : K.ok w y /\ v.ownBlock ≠ some b := by
  rcases List.mem_append.1 hy with hy | hy
  ·
   exact ⟨hO.each y hy, hO.apart y hy b hb⟩
  obtain rfl : y = x := by simpa using hy
  exact ⟨hx, hap b hb⟩
 rcases hv' with e | ⟨c, e, hc⟩
 ·
  rw [e]; exact hy2.2
 rw [e]
 intro e'
 have := K.lt _ _ _ hy2.1 hb
 have := Option.some.inj e'
 omega
def inSl (A : Option Addr) (len : Nat) (b : Nat) : Prop := ∃ a, A = some a /\ 0 < len /\ a.block = b
theorem RowsF.grown {w w' : World} {A : Option Addr} {len k : Nat} {C : List (List Value)} {row : Option Nat} (h : RowsF w A len k C) (hg : w.grownBy w' row) (hne : ∀ b, inSl A len b -> row ≠ some b) : RowsF w' A len k C :=
 ⟨h.size, fun h0 => by
  obtain ⟨b, o, rfl, hl, hc⟩ := h.at_ h0
  have hb : w'.heap[b]? = w.heap[b]? := hg.block b hl (fun e => hne b ⟨_, rfl, h0, rfl⟩ e.symm)
  exact ⟨b, o, rfl, Nat.lt_of_lt_of_le hl hg.size, fun i hi => ⟨(hc i hi).1, fun j hj => by rw [World.cell?_of_block (a := ⟨b, _, none⟩) hb]; exact (hc i hi).2 j hj⟩⟩⟩
theorem RowsF.lt {w : World} {A : Option Addr} {len k : Nat} {C : List (List Value)} (h : RowsF w A len k C) {b : Nat} (hb : inSl A len b) : b < w.heap.size := by
 obtain ⟨a, rfl, h0, rfl⟩ := hb
 obtain ⟨b, o, e, hl, _⟩ := h.at_ h0
 cases e
 exact hl
theorem run_own {α : Type} {K : Kit α} {ty : TypeId} {base bytes : Nat} {sl rt : TypeId} {i : TypeInfo} {z : Value} {w : World}
  (ht : Tryz.prog.underlying sl = some (.slice ty)) (hi : Tryz.prog.info? ty = some i) (hz : i.zero = some z) (hsize : i.size = K.k) (hby : i.bytes = bytes) (hzs : z.cells.size = K.k) (hsz : 0 < K.k)
  {v : Value} {X : List α} (hO : OwnAt K ty base w v X) (x : α) (cs : Array Value) (hcs : cs.toList = K.cells x) (hx : K.ok w x) (hfrom : ∀ b, K.uses x b -> base <= b) (hap : ∀ b, K.uses x b -> v.ownBlock ≠ some b)
  (hb : (X.length + 1) * bytes <= 140737488355328 /\ X.length + 1 <= maxLen) (hbase : base <= w.heap.size) :
  ∃ v' w', (Builtin.append_ #[sl, sl] rt #[v, .slice (some ⟨w.heap.size, 0, none⟩) 1 1]).run Tryz.prog (w.alloc (.cells cs ty)) = .ok v' w' /\ OwnAt K ty base w' v' (X ++ [x]) /\ w.grownBy w' v.ownBlock /\ (v'.ownBlock = v.ownBlock \/ ∃ b, v'.ownBlock = some b /\ w.heap.size <= b) := by
 have hbl : Below w.heap.size w (w.alloc (.cells cs ty)) := (Below.refl w.heap.size w).alloc (Nat.le_refl _) _
 have hA := hO.new hbl
 have hxA : K.ok (w.alloc (.cells cs ty)) x := K.kept _ _ _ none hx (zb hbl none) (fun b _ => by simp)
 obtain ⟨v', w', hr, h1, h2, _, h4⟩ := run_append_own_at (P := Tryz.prog) (w.alloc (.cells cs ty)) base sl rt ty i z K.k bytes ht hi hz hsize hby hzs hsz v X.length (X.map K.cells).flatten hA.row
  ⟨w.heap.size, 0, none⟩ 1 1 (K.cells x) (by rw [K.len]; omega) (cells_lit cs _ hcs) (K.one x) hb.2 hb.1 (Nat.le_trans hbase hbl.size)
 have hga : w.grownBy w' v.ownBlock := (zb hbl v.ownBlock).trans h2
 have hv' : v'.ownBlock = v.ownBlock \/ ∃ b, v'.ownBlock = some b /\ w.heap.size <= b := by
  rcases h4 with h4 | h4
  ·
   exact Or.inl h4
  exact Or.inr ⟨_, h4, by simp⟩
 refine ⟨v', w', hr, ⟨?_, ?_, ?_, ?_⟩, hga, hv'⟩
 ·
  rw [List.map_append, List.flatten_append, List.length_append]
  simpa using h1
 ·
  intro y hy
  rcases List.mem_append.1 hy with hy | hy
  ·
   exact K.kept _ _ _ _ (hA.each y hy) h2 (hO.apart y hy)
  obtain rfl : y = x := by simpa using hy
  exact K.kept _ _ _ _ hxA h2 hap
 ·
  intro y hy
  rcases List.mem_append.1 hy with hy | hy
  ·
   exact hO.from_ y hy
  obtain rfl : y = x := by simpa using hy
  exact hfrom
 intro y hy b hb
 have hy2 : K.ok w y /\ v.ownBlock ≠ some b := by
  rcases List.mem_append.1 hy with hy | hy
  ·
   exact ⟨hO.each y hy, hO.apart y hy b hb⟩
  obtain rfl : y = x := by simpa using hy
  exact ⟨hx, hap b hb⟩
 rcases hv' with e | ⟨c, e, hc⟩
 ·
  rw [e]; exact hy2.2
 rw [e]
 intro e'
 have := K.lt _ _ _ hy2.1 hb
 have := Option.some.inj e'
 omega
theorem step_own {α : Type} {K : Kit α} {ty : TypeId} {base bytes : Nat} {sl : TypeId} {i : TypeInfo} {z : Value} {ops : Array Oper} {o : Oper} {act : Act} {KK : Act -> World -> Prop} {Q : Exit -> Act -> World -> Prop} {E : Prop} {w : World} (hgd : o.guard = none) (s y : Operand)
  (ho : o.op = .call { callee := .builtin .append, args := #[s, y], argTypes := #[sl, sl] })
  (ht : Tryz.prog.underlying sl = some (.slice ty)) (hi : Tryz.prog.info? ty = some i) (hz : i.zero = some z) (hsize : i.size = K.k) (hby : i.bytes = bytes) (hzs : z.cells.size = K.k) (hsz : 0 < K.k)
  {v : Value} {X : List α} (hO : OwnAt K ty base w v X) (x : α) (cs : Array Value) (hcs : cs.toList = K.cells x) (hx : K.ok w x) (hfrom : ∀ b, K.uses x b -> base <= b) (hap : ∀ b, K.uses x b -> v.ownBlock ≠ some b)
  (hs : act.eval s = v) (hy : act.eval y = .slice (some ⟨w.heap.size, 0, none⟩) 1 1) (hb : (X.length + 1) * bytes <= 140737488355328 /\ X.length + 1 <= maxLen) (hbase : base <= w.heap.size)
  (h : ∀ v' w', OwnAt K ty base w' v' (X ++ [x]) -> w.grownBy w' v.ownBlock -> KK (act.put o.dst v') w') :
  if Region.wanted o (yielded ops act.tmps) = true then Oper.wp Tryz.prog o act (w.alloc (.cells cs ty)) KK Q else E := by
 have hw : Region.wanted o (yielded ops act.tmps) = true := by simp [Region.wanted, hgd]
 rw [if_pos hw]
 obtain ⟨v', w', hr, h1, h2, _⟩ := run_own (rt := o.type) ht hi hz hsize hby hzs hsz hO x cs hcs hx hfrom hap hb hbase
 unfold Oper.wp execOp
 simp only [ho, resolve, invoke, builtin, Sem.run_bind, Sem.run_pure, Result.andThen_ok, List.map_toArray, List.map_cons, List.map_nil, hs, hy, hr]
 exact h v' w' h1 h2
theorem ze (w : World) (cs : Array Value) (T : TypeId) (j : Nat) : (w.alloc (.cells cs T)).frozen? ⟨w.heap.size, j, none⟩ = false := by simp
theorem zd (w : World) (g j : Nat) (u : Value) : w.grownBy (w.setCell ⟨g, j, none⟩ u) (some g) :=
 ⟨rfl, rfl, rfl, by simp, fun k _ hk => heap_setCell_other w ⟨g, j, none⟩ k u (fun e => hk (by simp [e]))⟩
theorem zg {w : World} {p j i : Nat} {u v : Value} (h : w.cell? ⟨p, i, none⟩ = some v) (hne : i ≠ j) : (w.setCell ⟨p, j, none⟩ u).cell? ⟨p, i, none⟩ = some v := by
 have h1 : (⟨p, j, none⟩ : Addr) ≠ ⟨p, i, none⟩ := by intro e; cases e; exact hne rfl
 exact (World.cell?_setCell_other (h := h1) ..).trans h
theorem zh {w : World} {p i : Nat} {u v : Value} (h : w.cell? ⟨p, i, none⟩ = some v) : (w.setCell ⟨p, i, none⟩ u).cell? ⟨p, i, none⟩ = some u := World.cell?_setCell_same (h := h) ..
def Keep (lo hi : Nat) (w w' : World) : Prop := ∀ b, lo <= b -> b < hi -> b < w.heap.size -> w'.heap[b]? = w.heap[b]?
def RowIn (w : World) (lo hi : Nat) (A : Option Addr) (cs : List (List Value)) : Prop := 0 < cs.length -> ∃ b o, A = some ⟨b, o, none⟩ /\ lo <= b /\ b < hi /\ b < w.heap.size /\ ∀ i, (h : i < cs.length) -> RowAt w b (o + i * 4) cs[i]
inductive DtIn (w : World) (lo hi : Nat) : List Value -> Dt -> Prop
 | mk (k n : Int) (s : ByteArray) (A : Option Addr) (cap : Nat) (l : List Dt) (cs : List (List Value)) (hl : cs.length = l.length) (h1 : l.length <= cap) (h2 : cap <= maxLen) (row : RowIn w lo hi A cs)
   (each : ∀ i, (h : i < l.length) -> (h' : i < cs.length) -> DtIn w lo hi cs[i] l[i]) : DtIn w lo hi [.int .i64 k, .int .i64 n, .string s, .slice A l.length cap] (.mk k n s l)
theorem RowIn.mono {w w' : World} {lo hi lo' hi' : Nat} {A : Option Addr} {cs : List (List Value)} (h : RowIn w lo hi A cs) (hk : Keep lo hi w w') (hs : w.heap.size <= w'.heap.size) (h1 : lo' <= lo) (h2 : hi <= hi') : RowIn w' lo' hi' A cs := by
 intro h0
 obtain ⟨b, o, hA, l1, l2, l3, hr⟩ := h h0
 refine ⟨b, o, hA, by omega, by omega, by omega, fun i hi j hj => ?_⟩
 rw [World.cell?_of_block (a := ⟨b, o + i * 4 + j, none⟩) (hk b l1 l2 l3)]
 exact hr i hi j hj
theorem DtIn.mono {w w' : World} {lo hi lo' hi' : Nat} {c : List Value} {t : Dt} (h : DtIn w lo hi c t) (hk : Keep lo hi w w') (hs : w.heap.size <= w'.heap.size) (h1 : lo' <= lo) (h2 : hi <= hi') : DtIn w' lo' hi' c t := by
 induction h with
 | mk k n s A cap l cs hl a1 a2 row each ih => exact .mk k n s A cap l cs hl a1 a2 (row.mono hk hs h1 h2) ih
theorem DtIn.empty {w : World} {lo hi lo' hi' : Nat} {c : List Value} {t : Dt} (h : DtIn w lo hi c t) (he : hi <= lo) : DtIn w lo' hi' c t := by
 induction h with
 | mk k n s A cap l cs hl a1 a2 row each ih =>
  refine .mk k n s A cap l cs hl a1 a2 (fun h0 => ?_) ih
  obtain ⟨b, o, _, l1, l2, _⟩ := row h0
  omega
theorem DtIn.len {w : World} {lo hi : Nat} {c : List Value} {t : Dt} (h : DtIn w lo hi c t) : c.length = 4 := by cases h; rfl
theorem DtIn.one {w : World} {lo hi : Nat} {c : List Value} {t : Dt} (h : DtIn w lo hi c t) : ∀ u ∈ c, u.oneCell' = true := by
 cases h
 intro u hu
 simp only [List.mem_cons, List.not_mem_nil, or_false] at hu
 rcases hu with rfl | rfl | rfl | rfl <;> rfl
theorem keep_refl (lo hi : Nat) (w : World) : Keep lo hi w w := fun _ _ _ _ => rfl
theorem zi {w w' : World} {row : Option Nat} {lo hi : Nat} (hg : w.grownBy w' row) (hn : ∀ b, lo <= b -> b < hi -> row ≠ some b) : Keep lo hi w w' := fun b h1 h2 h3 => hg.block b h3 (fun e => hn b h1 h2 e.symm)
theorem zr {w w' : World} {lo hi : Nat} (hb : Below w.heap.size w w') : Keep lo hi w w' := fun b _ _ h3 => hb.block b h3
structure DV where
 k : Int
 n : Int
 s : ByteArray
 A : Option Addr
 len : Nat
 cap : Nat
 t : Dt
 lo : Nat
 hi : Nat
def DV.cells (x : DV) : List Value := [.int .i64 x.k, .int .i64 x.n, .string x.s, .slice x.A x.len x.cap]
def kitDt : Kit DV where
 k := 4
 cells := DV.cells
 len x := rfl
 one x u hu := by
  simp only [DV.cells, List.mem_cons, List.not_mem_nil, or_false] at hu
  rcases hu with rfl | rfl | rfl | rfl <;> rfl
 ok w x := DtIn w x.lo x.hi x.cells x.t /\ x.hi <= w.heap.size
 uses x b := x.lo <= b /\ b < x.hi
 lt w x b h hb := Nat.lt_of_lt_of_le hb.2 h.2
 kept w w' x row h hg hn := ⟨h.1.mono (zi hg (fun b h1 h2 => hn b ⟨h1, h2⟩)) hg.size (Nat.le_refl _) (Nat.le_refl _), Nat.le_trans h.2 hg.size⟩
theorem DtIn.view {w : World} {lo hi : Nat} {c : List Value} {t : Dt} (h : DtIn w lo hi c t) (hh : hi <= w.heap.size) : ∃ x : DV, x.cells = c /\ x.t = t /\ x.lo = lo /\ x.hi = hi /\ kitDt.ok w x := by
 cases h with
 | mk k n s A cap l cs hl a1 a2 row each => exact ⟨⟨k, n, s, A, l.length, cap, .mk k n s l, lo, hi⟩, rfl, rfl, rfl, rfl, ⟨.mk k n s A cap l cs hl a1 a2 row each, hh⟩⟩
theorem OwnAt.tree {ty : TypeId} {base lo : Nat} {w : World} {v : Value} {X : List DV} (h : OwnAt kitDt ty base w v X) (hlo : lo <= base) (k n : Int) (s : ByteArray) : DtIn w lo w.heap.size [.int .i64 k, .int .i64 n, .string s, v] (.mk k n s (X.map (·.t))) := by
 obtain ⟨A, cap, rfl, h1, h2, hr, hA⟩ := h.form
 have e : X.length = (X.map (·.t)).length := by simp
 rw [e]
 refine .mk k n s A cap _ (X.map DV.cells) (by simp) (by rw [<- e]; exact h1) h2 ?_ ?_
 ·
  intro h0
  obtain ⟨b, o, rfl, hl, hc⟩ := hr.at_ (by simpa using h0)
  exact ⟨b, o, rfl, Nat.le_trans hlo (hA _ rfl), hl, hl, fun i hi => (hc i hi).2⟩
 ·
  intro i hi hi'
  have hx : i < X.length := by simpa using hi
  have hm : X[i] ∈ X := List.getElem_mem hx
  obtain ⟨o1, o2⟩ := h.each _ hm
  rw [List.getElem_map, List.getElem_map]
  by_cases hlt : X[i].lo < X[i].hi
  ·
   exact o1.mono (keep_refl _ _ _) (Nat.le_refl _) (Nat.le_trans hlo (h.from_ _ hm _ ⟨Nat.le_refl _, hlt⟩)) o2
  exact o1.empty (by omega)
end Go.Proofs.YtfhbdlobhjegcaaGreatDoor
/-
 FOR A PROOF OF AN '..UptoSaid': WHAT THE BOUND GIVES. Copy it as <Name>Bulk.lean (put your seat's Name for YtfhbdlobhjegcaaGreatDoor, the bound of 'uptoSmall' for 1048576), name it in GOCLAIM.json's 'order' behind <Name>Rows. By an AI agent, Sun Nov 15 2026. No person has read it. No macro, syntax, notation, axiom, sorry.
-/
namespace Go.Proofs.YtfhbdlobhjegcaaGreatDoor.bulks
theorem one_le {H : Type} (d : DataW H) : 1 <= Rows.uptoBulk d := by
 cases d with
 | lit l => cases l <;> simp [Rows.uptoBulk]
 | nil => simp [Rows.uptoBulk]
 | ptr d => simp [Rows.uptoBulk]
 | slice elems spare => simp [Rows.uptoBulk]
 | agg parts => simp [Rows.uptoBulk]
 | iface t d => simp [Rows.uptoBulk]
 | map entries => simp [Rows.uptoBulk]
 | held h => simp [Rows.uptoBulk]
theorem part_le {H : Type} {d : DataW H} {l : List (DataW H)} (h : d ∈ l) : Rows.uptoBulk d <= Rows.uptoBulkAll l := by
 induction l with
 | nil => cases h
 | cons x r ih =>
  simp only [Rows.uptoBulkAll]
  cases List.mem_cons.1 h with
  | inl e => subst e; omega
  | inr e => have := ih e; omega
theorem append {H : Type} (l r : List (DataW H)) : Rows.uptoBulkAll (l ++ r) = Rows.uptoBulkAll l + Rows.uptoBulkAll r := by
 induction l with
 | nil => simp [Rows.uptoBulkAll]
 | cons x l ih => simp only [List.cons_append, Rows.uptoBulkAll, ih]; omega
theorem length_le {H : Type} (l : List (DataW H)) : l.length <= Rows.uptoBulkAll l := by
 induction l with
 | nil => simp [Rows.uptoBulkAll]
 | cons x r ih => have := one_le x; simp only [Rows.uptoBulkAll, List.length_cons]; omega
theorem slice_le {H : Type} (elems spare : List (DataW H)) : elems.length + spare.length + 1 <= Rows.uptoBulk (.slice elems spare) := by
 have h1 := length_le elems
 have h2 := length_le spare
 simp only [Rows.uptoBulk]
 omega
theorem slice_elems {H : Type} (elems spare : List (DataW H)) : Rows.uptoBulkAll elems + 1 <= Rows.uptoBulk (.slice elems spare) := by
 simp only [Rows.uptoBulk]
 omega
theorem string_eq {H : Type} (bytes : List UInt8) : Rows.uptoBulk (DataW.lit (H := H) (.string bytes)) = bytes.length + 1 := by
 simp [Rows.uptoBulk]
theorem bound {H : Type} {l : List (DataW H)} (hk : Rows.uptoSmall H l = true) : Rows.uptoBulkAll l <= 1048576 := by
 simpa [Rows.uptoSmall] using hk
theorem room {n b : Nat} (hn : n <= 2097152) (hb : b <= 4096) : (n + n / 4 + 192) * b <= 281474976710656 := by
 have h : (n + n / 4 + 192) * b <= 2621632 * 4096 := Nat.mul_le_mul (by omega) hb
 omega
end Go.Proofs.YtfhbdlobhjegcaaGreatDoor.bulks
