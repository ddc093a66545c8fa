import Derived.Test.YtfhbdlobhjegcaaGreatDoorGTree
namespace Go.Proofs.YtfhbdlobhjegcaaGreatDoor
set_option linter.unusedVariables false
inductive Px where
 | const (d : Dt)
 | was (i : Nat)
 | ite (a b c : Px)
 | prim (s : ByteArray) (l : List Px)
inductive Vl where
 | int (n : Int)
 | bool (n : Int)
 | nil
 | sym (s : ByteArray)
 | pair (a b : Vl)
mutual
def datV : Dt -> Vl
 | .mk k n s l => if k = 1 then .int n else if k = 2 then .bool n else if k = 3 then .sym s else datL l
def datL : List Dt -> Vl
 | [] => .nil
 | d :: r => .pair (datV d) (datL r)
end
abbrev Rs (α : Type) := Except Int α
def bV (b : Bool) : Vl := .bool (if b then 1 else 0)
def isF : Vl -> Bool
 | .bool n => n == 0
 | _ => false
def isN : Vl -> Bool
 | .nil => true
 | _ => false
def isP : Vl -> Bool
 | .pair _ _ => true
 | _ => false
def sPlus : ByteArray := ⟨#[43]⟩
def sMinus : ByteArray := ⟨#[45]⟩
def sTimes : ByteArray := ⟨#[42]⟩
def sQuot : ByteArray := ⟨#[113, 117, 111, 116, 105, 101, 110, 116]⟩
def sRem : ByteArray := ⟨#[114, 101, 109, 97, 105, 110, 100, 101, 114]⟩
def sEq : ByteArray := ⟨#[61]⟩
def sLt : ByteArray := ⟨#[60]⟩
def sCons : ByteArray := ⟨#[99, 111, 110, 115]⟩
def sCar : ByteArray := ⟨#[99, 97, 114]⟩
def sCdr : ByteArray := ⟨#[99, 100, 114]⟩
def sNull : ByteArray := ⟨#[110, 117, 108, 108, 63]⟩
def sPair : ByteArray := ⟨#[112, 97, 105, 114, 63]⟩
def sNot : ByteArray := ⟨#[110, 111, 116]⟩
def sEqq : ByteArray := ⟨#[101, 113, 63]⟩
def sError : ByteArray := ⟨#[101, 114, 114, 111, 114]⟩
def big : Int := 1099511627776
def calcV (s : ByteArray) (a b : Int) : Rs Vl :=
 let fit (n : Int) : Rs Vl := if n < -big \/ big < n then .error 2 else .ok (.int n)
 if s = sPlus then fit (a + b)
 else if s = sMinus then fit (a - b)
 else if s = sEq then .ok (bV (a == b))
 else if s = sLt then .ok (bV (decide (a < b)))
 else if s = sTimes then (if 0 < b.natAbs /\ big.toNat / b.natAbs < a.natAbs then .error 2 else fit (a * b))
 else if b = 0 then .error 2
 else if s = sRem then fit (a - (a.tdiv b) * b)
 else fit (a.tdiv b)
def sameV : Vl -> Vl -> Bool
 | .int a, .int b => a == b
 | .bool a, .bool b => a == b
 | .nil, .nil => true
 | .sym a, .sym b => decide (a = b)
 | _, _ => false
def primV (s : ByteArray) (l : List Vl) : Rs Vl :=
 match l with
 | [a] =>
  if s = sCar then (match a with | .pair x _ => .ok x | _ => .error 3)
  else if s = sCdr then (match a with | .pair _ y => .ok y | _ => .error 3)
  else if s = sNull then .ok (bV (isN a))
  else if s = sPair then .ok (bV (isP a))
  else if s = sNot then .ok (bV (isF a))
  else .error 14
 | [a, b] =>
  if s = sCons then .ok (.pair a b)
  else if s = sEqq then .ok (bV (sameV a b))
  else (match a, b with | .int x, .int y => calcV s x y | _, _ => .error 3)
 | _ => .error 3
mutual
def evalX (olds : List Int) : Px -> Rs Vl
 | .const d => .ok (datV d)
 | .was i => .ok (.int (olds.getD i 0))
 | .ite a b c => match evalX olds a with
  | .error e => .error e
  | .ok v => if isF v then evalX olds c else evalX olds b
 | .prim s l => match evalL olds l with
  | .error e => .error e
  | .ok vs => primV s vs
def evalL (olds : List Int) : List Px -> Rs (List Vl)
 | [] => .ok []
 | x :: r => match evalX olds x with
  | .error e => .error e
  | .ok v => match evalL olds r with
   | .error e => .error e
   | .ok vs => .ok (v :: vs)
end
structure Wd where
 k : Int
 n : Int
 s : ByteArray
structure IV where
 op : Int
 a : Int
 s : ByteArray
 w : Wd
def noW : Wd := ⟨0, 0, ⟨#[]⟩⟩
def nilW : Wd := ⟨3, 0, ⟨#[]⟩⟩
def tickI : IV := ⟨1, 0, ⟨#[]⟩, noW⟩
def constI (w : Wd) : IV := ⟨2, 0, ⟨#[]⟩, w⟩
def localI (i : Nat) : IV := ⟨3, i, ⟨#[]⟩, noW⟩
def retI : IV := ⟨14, 0, ⟨#[]⟩, noW⟩
def jumpI (n : Nat) : IV := ⟨15, n, ⟨#[]⟩, noW⟩
def elseI (n : Nat) : IV := ⟨16, n, ⟨#[]⟩, noW⟩
def primI (s : ByteArray) (n : Nat) : IV := ⟨18, n, s, noW⟩
def atomW (k n : Int) (s : ByteArray) : Wd := if k = 2 then ⟨2, n, ⟨#[]⟩⟩ else if k = 3 then ⟨4, 0, s⟩ else ⟨1, n, ⟨#[]⟩⟩
mutual
def codeD : Dt -> List IV
 | .mk k n s l => if k = 4 then codeDs l ++ constI nilW :: List.replicate l.length (primI sCons 2) else [constI (atomW k n s)]
def codeDs : List Dt -> List IV
 | [] => []
 | d :: r => codeD d ++ codeDs r
end
def tailI (t : Bool) : List IV := if t then [retI] else []
mutual
def codeX : Px -> Bool -> Nat -> List IV
 | .const d, t, n => tickI :: (codeD d ++ tailI t)
 | .was i, t, n => tickI :: localI i :: tailI t
 | .ite a b c, t, n =>
  let ca := codeX a false (n + 1)
  let nb := n + 1 + ca.length + 1
  let cb := codeX b t nb
  let nc := nb + cb.length + (if t then 0 else 1)
  let cc := codeX c t nc
  tickI :: (ca ++ elseI nc :: (cb ++ (if t then [] else [jumpI (nc + cc.length)]) ++ cc))
 | .prim s l, t, n => tickI :: (codeL l (n + 1) ++ primI s l.length :: tailI t)
def codeL : List Px -> Nat -> List IV
 | [], _ => []
 | x :: r, n => codeX x false n ++ codeL r (n + (codeX x false n).length)
end
abbrev Hp := List (Wd × Wd)
def pAt (i : Nat) : Int := 2 + 3 * i
inductive HV (h : Hp) (lo hi : Nat) : Wd -> Vl -> Prop
 | int (n : Int) : HV h lo hi ⟨1, n, ⟨#[]⟩⟩ (.int n)
 | bool (n : Int) : HV h lo hi ⟨2, n, ⟨#[]⟩⟩ (.bool n)
 | nil : HV h lo hi ⟨3, 0, ⟨#[]⟩⟩ .nil
 | sym (s : ByteArray) : HV h lo hi ⟨4, 0, s⟩ (.sym s)
 | pair (i : Nat) (hi1 : i < h.length) (hi2 : lo <= i) (hi3 : i < hi) (a b : Vl) (ha : HV h lo hi h[i].1 a) (hb : HV h lo hi h[i].2 b) : HV h lo hi ⟨5, pAt i, ⟨#[]⟩⟩ (.pair a b)
def Ext (h h' : Hp) : Prop := ∃ l, h' = h ++ l
theorem Ext.refl (h : Hp) : Ext h h := ⟨[], by simp⟩
theorem Ext.trans {a b c : Hp} (h1 : Ext a b) (h2 : Ext b c) : Ext a c := by
 obtain ⟨l, rfl⟩ := h1
 obtain ⟨m, rfl⟩ := h2
 exact ⟨l ++ m, by simp⟩
theorem Ext.len {a b : Hp} (h : Ext a b) : a.length <= b.length := by obtain ⟨l, rfl⟩ := h; simp
theorem HV.ext {h h' : Hp} {lo hi lo' hi' : Nat} {w : Wd} {v : Vl} (x : HV h lo hi w v) (e : Ext h h') (h1 : lo' <= lo) (h2 : hi <= hi') : HV h' lo' hi' w v := by
 obtain ⟨l, rfl⟩ := e
 induction x with
 | int n => exact .int n
 | bool n => exact .bool n
 | nil => exact .nil
 | sym s => exact .sym s
 | pair i hi1 hi2 hi3 a b ha hb iha ihb =>
  refine .pair i (by simp; omega) (by omega) (by omega) a b ?_ ?_
  ·
   rw [List.getElem_append_left hi1]; exact iha
  rw [List.getElem_append_left hi1]; exact ihb
structure SE where
 pc : Nat
 st : List Wd
 hp : Hp
def boolW (b : Bool) : Wd := ⟨2, if b then 1 else 0, ⟨#[]⟩⟩
def isPW (w : Wd) : Bool := w.k == 5
def sameW (a b : Wd) : Bool := (a.k == b.k) && (a.n == b.n) && decide (a.s = b.s)
def ixW (w : Wd) : Nat := ((w.n - 2) / 3).toNat
def calcW (s : ByteArray) (a b : Int) : Rs Wd :=
 match calcV s a b with
 | .ok (.int n) => .ok ⟨1, n, ⟨#[]⟩⟩
 | .ok (.bool n) => .ok ⟨2, n, ⟨#[]⟩⟩
 | .ok _ => .error 0
 | .error e => .error e
def primW (h : Hp) (s : ByteArray) (l : List Wd) : Rs (Wd × Hp) :=
 match l with
 | [a] =>
  if s = sCar then (if isPW a then .ok ((h.getD (ixW a) (noW, noW)).1, h) else .error 3)
  else if s = sCdr then (if isPW a then .ok ((h.getD (ixW a) (noW, noW)).2, h) else .error 3)
  else if s = sNull then .ok (boolW (a.k == 3), h)
  else if s = sPair then .ok (boolW (isPW a), h)
  else if s = sNot then .ok (boolW ((a.k == 2) && (a.n == 0)), h)
  else .error 14
 | [a, b] =>
  if s = sCons then .ok (⟨5, pAt h.length, ⟨#[]⟩⟩, h ++ [(a, b)])
  else if s = sEqq then .ok (boolW (sameW a b), h)
  else if (a.k == 1) && (b.k == 1) then (match calcW s a.n b.n with | .ok w => .ok (w, h) | .error e => .error e) else .error 3
 | _ => .error 3
abbrev End := Rs (Wd × Hp)
inductive Step (C : List IV) (L : List Wd) : SE -> SE ⊕ End -> Prop
 | tick {pc st hp} (h : C[pc]? = some tickI) : Step C L ⟨pc, st, hp⟩ (.inl ⟨pc + 1, st, hp⟩)
 | const {pc st hp w} (h : C[pc]? = some (constI w)) : Step C L ⟨pc, st, hp⟩ (.inl ⟨pc + 1, st ++ [w], hp⟩)
 | local_ {pc st hp i w} (h : C[pc]? = some (localI i)) (hw : L[i]? = some w) : Step C L ⟨pc, st, hp⟩ (.inl ⟨pc + 1, st ++ [w], hp⟩)
 | jump {pc st hp n} (h : C[pc]? = some (jumpI n)) (hn : pc < n) : Step C L ⟨pc, st, hp⟩ (.inl ⟨n, st, hp⟩)
 | else_ {pc st hp n w} (h : C[pc]? = some (elseI n)) (hn : pc < n) : Step C L ⟨pc, st ++ [w], hp⟩ (.inl ⟨if (w.k == 2) && (w.n == 0) then n else pc + 1, st, hp⟩)
 | prim {pc st hp s n l w hp'} (h : C[pc]? = some (primI s n)) (hl : l.length = n) (hn : 1 <= n) (hr : primW hp s l = .ok (w, hp')) : Step C L ⟨pc, st ++ l, hp⟩ (.inl ⟨pc + 1, st ++ [w], hp'⟩)
 | primE {pc st hp s n l e} (h : C[pc]? = some (primI s n)) (hl : l.length = n) (hn : 1 <= n) (hr : primW hp s l = .error e) : Step C L ⟨pc, st ++ l, hp⟩ (.inr (.error e))
 | ret {pc st hp w} (h : C[pc]? = some retI) : Step C L ⟨pc, st ++ [w], hp⟩ (.inr (.ok (w, hp)))
inductive Path (C : List IV) (L : List Wd) : SE -> End -> Prop
 | stop {s r} (h : Step C L s (.inr r)) : Path C L s r
 | next {s s' r} (h : Step C L s (.inl s')) (k : Path C L s' r) : Path C L s r
def Has (C : List IV) (n : Nat) (c : List IV) : Prop := ∀ i, i < c.length -> C[n + i]? = c[i]?
theorem Has.head {C c : List IV} {n : Nat} {x : IV} (h : Has C n (x :: c)) : C[n]? = some x := by
 have := h 0 (by simp)
 simpa using this
theorem Has.tail {C c : List IV} {n : Nat} {x : IV} (h : Has C n (x :: c)) : Has C (n + 1) c := fun i hi => by
 have := h (i + 1) (by simpa using hi)
 rw [show n + 1 + i = n + (i + 1) by omega, this]
 simp
theorem Has.left {C a b : List IV} {n : Nat} (h : Has C n (a ++ b)) : Has C n a := fun i hi => by
 have := h i (by simp; omega)
 rw [this, List.getElem?_append_left hi]
theorem Has.right {C a b : List IV} {n : Nat} (h : Has C n (a ++ b)) : Has C (n + a.length) b := fun i hi => by
 have := h (a.length + i) (by simp; omega)
 rw [show n + a.length + i = n + (a.length + i) by omega, this, List.getElem?_append_right (by omega)]
 congr 1
 omega
def Args (h : Hp) : Nat -> Nat -> List Wd -> List Vl -> Prop
 | lo, hi, [], [] => lo <= hi
 | lo, hi, w :: ws, v :: vs => ∃ m, lo <= m /\ HV h lo m w v /\ Args h m hi ws vs
 | _, _, _, _ => False
theorem Args.len {h : Hp} : {lo hi : Nat} -> {ws : List Wd} -> {vs : List Vl} -> Args h lo hi ws vs -> ws.length = vs.length /\ lo <= hi
 | _, _, [], [], x => ⟨rfl, x⟩
 | _, _, _ :: _, _ :: _, ⟨m, h1, _, h3⟩ => by
  obtain ⟨e, l⟩ := Args.len h3
  exact ⟨by simp [e], by omega⟩
 | _, _, [], _ :: _, x => x.elim
 | _, _, _ :: _, [], x => x.elim
theorem pAt_ix (i : Nat) (s : ByteArray) : ixW ⟨5, pAt i, s⟩ = i := by
 unfold ixW pAt
 simp only
 omega
theorem isP_iff {h : Hp} {lo hi : Nat} {w : Wd} {v : Vl} (x : HV h lo hi w v) : isPW w = isP v := by cases x <;> rfl
theorem isF_iff {h : Hp} {lo hi : Nat} {w : Wd} {v : Vl} (x : HV h lo hi w v) : ((w.k == 2) && (w.n == 0)) = isF v := by
 cases x with
 | bool n => show ((2 : Int) == 2 && n == 0) = (n == 0); simp
 | _ => rfl
theorem hv_bool (h : Hp) (lo hi : Nat) (b : Bool) : HV h lo hi (boolW b) (bV b) := .bool _
theorem hv_same {h : Hp} {lo m hi : Nat} {a b : Wd} {x y : Vl} (ha : HV h lo m a x) (hb : HV h m hi b y) : sameW a b = sameV x y := by
 cases ha <;> cases hb <;> first | (simp [sameW, sameV]; done) | (simp [sameW, sameV, pAt]; omega)
theorem calc_w {s : ByteArray} {a b : Int} : (∀ v, calcV s a b = .ok v -> ∃ w, calcW s a b = .ok w /\ ∀ h lo hi, HV h lo hi w v) /\ ∀ e, calcV s a b = .error e -> calcW s a b = .error e := by
 have key : ∀ v, calcV s a b = .ok v -> (∃ n, v = .int n) \/ ∃ n, v = .bool n := by
  intro v hv
  have fit : ∀ n : Int, (if n < -big \/ big < n then (.error 2 : Rs Vl) else .ok (.int n)) = .ok v -> ∃ n, v = .int n := fun n h => by
   split at h
   ·
    cases h
   cases h; exact ⟨n, rfl⟩
  unfold calcV at hv
  simp only at hv
  split at hv; · exact Or.inl (fit _ hv)
  split at hv; · exact Or.inl (fit _ hv)
  split at hv; · cases hv; exact Or.inr ⟨_, rfl⟩
  split at hv; · cases hv; exact Or.inr ⟨_, rfl⟩
  split at hv
  ·
   split at hv
   ·
    cases hv
   exact Or.inl (fit _ hv)
  split at hv; · cases hv
  split at hv; · exact Or.inl (fit _ hv)
  exact Or.inl (fit _ hv)
 refine ⟨fun v hv => ?_, fun e he => by unfold calcW; rw [he]⟩
 rcases key v hv with ⟨n, rfl⟩ | ⟨n, rfl⟩
 ·
  exact ⟨⟨1, n, ⟨#[]⟩⟩, by unfold calcW; rw [hv], fun _ _ _ => .int n⟩
 ·
  exact ⟨⟨2, n, ⟨#[]⟩⟩, by unfold calcW; rw [hv], fun _ _ _ => .bool n⟩
theorem prim_w {h : Hp} {s : ByteArray} {lo : Nat} {ws : List Wd} {vs : List Vl} (ha : Args h lo h.length ws vs) :
  (∀ v, primV s vs = .ok v -> ∃ w h', primW h s ws = .ok (w, h') /\ Ext h h' /\ HV h' lo h'.length w v) /\ ∀ e, primV s vs = .error e -> primW h s ws = .error e := by
 match ws, vs, ha with
 | [], [], _ => exact ⟨fun v hv => (by cases hv), fun e he => (by cases he; rfl)⟩
 | [a], [x], ⟨m, h1, hx, h3⟩ =>
  have hm : m <= h.length := h3
  have hx' := hx.ext (Ext.refl h) (Nat.le_refl _) hm
  have hP := isP_iff hx
  have hF := isF_iff hx
  unfold primV primW
  simp only
  by_cases e1 : s = sCar
  ·
   rw [if_pos e1, if_pos e1, hP]
   cases hx' with
   | pair i i1 i2 i3 a b ha hb =>
    refine ⟨fun v hv => ?_, fun e he => by cases he⟩
    cases hv
    refine ⟨h[i].1, h, ?_, Ext.refl h, ha⟩
    rw [pAt_ix]
    simp [isP, List.getD_eq_getElem?_getD, i1]
   | _ => exact ⟨fun v hv => (by cases hv), fun e he => (by cases he; rfl)⟩
  ·
   rw [if_neg e1, if_neg e1]
   by_cases e2 : s = sCdr
   ·
    rw [if_pos e2, if_pos e2, hP]
    cases hx' with
    | pair i i1 i2 i3 a b ha hb =>
     refine ⟨fun v hv => ?_, fun e he => by cases he⟩
     cases hv
     refine ⟨h[i].2, h, ?_, Ext.refl h, hb⟩
     rw [pAt_ix]
     simp [isP, List.getD_eq_getElem?_getD, i1]
    | _ => exact ⟨fun v hv => (by cases hv), fun e he => (by cases he; rfl)⟩
   ·
    rw [if_neg e2, if_neg e2]
    by_cases e3 : s = sNull
    ·
     rw [if_pos e3, if_pos e3]
     refine ⟨fun v hv => ?_, fun e he => by cases he⟩
     cases hv
     rw [show (a.k == 3) = isN x by cases hx <;> rfl]
     exact ⟨_, h, rfl, Ext.refl h, hv_bool _ _ _ _⟩
    rw [if_neg e3, if_neg e3]
    by_cases e4 : s = sPair
    ·
     rw [if_pos e4, if_pos e4, hP]
     refine ⟨fun v hv => ?_, fun e he => by cases he⟩
     cases hv
     exact ⟨_, h, rfl, Ext.refl h, hv_bool _ _ _ _⟩
    rw [if_neg e4, if_neg e4]
    by_cases e5 : s = sNot
    ·
     rw [if_pos e5, if_pos e5, hF]
     refine ⟨fun v hv => ?_, fun e he => by cases he⟩
     cases hv
     exact ⟨_, h, rfl, Ext.refl h, hv_bool _ _ _ _⟩
    rw [if_neg e5, if_neg e5]
    exact ⟨fun v hv => (by cases hv), fun e he => (by cases he; rfl)⟩
 | [a, b], [x, y], ⟨m, h1, hx, m2, h2, hy, h3⟩ =>
  have hm : m2 <= h.length := h3
  unfold primV primW
  simp only
  by_cases e1 : s = sCons
  ·
   rw [if_pos e1, if_pos e1]
   refine ⟨fun v hv => ?_, fun e he => by cases he⟩
   cases hv
   have he : Ext h (h ++ [(a, b)]) := ⟨_, rfl⟩
   have hlen : (h ++ [(a, b)]).length = h.length + 1 := by simp
   refine ⟨_, _, rfl, he, .pair h.length (by rw [hlen]; omega) (by omega) (by rw [hlen]; omega) x y ?_ ?_⟩
   ·
    rw [show (h ++ [(a, b)])[h.length]'(by rw [hlen]; omega) = (a, b) by simp]
    exact hx.ext he (Nat.le_refl _) (by rw [hlen]; omega)
   rw [show (h ++ [(a, b)])[h.length]'(by rw [hlen]; omega) = (a, b) by simp]
   exact hy.ext he (by omega) (by rw [hlen]; omega)
  rw [if_neg e1, if_neg e1]
  by_cases e2 : s = sEqq
  ·
   rw [if_pos e2, if_pos e2, hv_same hx hy]
   refine ⟨fun v hv => ?_, fun e he => by cases he⟩
   cases hv
   exact ⟨_, h, rfl, Ext.refl h, hv_bool _ _ _ _⟩
  rw [if_neg e2, if_neg e2]
  cases hx with
  | int p =>
   cases hy with
   | int q =>
    obtain ⟨c1, c2⟩ := calc_w (s := s) (a := p) (b := q)
    refine ⟨fun v hv => ?_, fun e he => ?_⟩
    ·
     obtain ⟨w, hw, hv'⟩ := c1 v hv
     refine ⟨w, h, ?_, Ext.refl h, hv' _ _ _⟩
     simp [hw]
    have := c2 e he
    simp [this]
   | _ => exact ⟨fun v hv => (by cases hv), fun e he => (by cases he; rfl)⟩
  | _ => exact ⟨fun v hv => (by cases hv), fun e he => (by cases he; rfl)⟩
 | _ :: _ :: _ :: _, _ :: _ :: _ :: _, _ => exact ⟨fun v hv => (by cases hv), fun e he => (by cases he; rfl)⟩
 | [], _ :: _, x => exact x.elim
 | _ :: _, [], x => exact x.elim
 | [_], _ :: _ :: _, ⟨_, _, _, x⟩ => exact x.elim
 | _ :: _ :: _, [_], ⟨_, _, _, x⟩ => exact x.elim
 | [_, _], _ :: _ :: _ :: _, ⟨_, _, _, _, _, _, x⟩ => exact x.elim
 | _ :: _ :: _ :: _, [_, _], ⟨_, _, _, _, _, _, x⟩ => exact x.elim
/- The code of an upgrade's expression runs to what the expression means: no program in sight. -/
inductive DtK : Dt -> Prop
 | mk (k n : Int) (s : ByteArray) (l : List Dt) (h1 : 1 <= k) (h4 : k <= 4) (hl : ∀ x ∈ l, DtK x) : DtK (.mk k n s l)
def PathP (C : List IV) (L : List Wd) (s : SE) (P : End -> Prop) : Prop := ∃ r, Path C L s r /\ P r
theorem PathP.next {C : List IV} {L : List Wd} {s s' : SE} {P : End -> Prop} (h : Step C L s (.inl s')) (k : PathP C L s' P) : PathP C L s P := by
 obtain ⟨r, hr, hp⟩ := k
 exact ⟨r, .next h hr, hp⟩
theorem PathP.stop {C : List IV} {L : List Wd} {s : SE} {r : End} {P : End -> Prop} (h : Step C L s (.inr r)) (k : P r) : PathP C L s P := ⟨r, .stop h, k⟩
theorem evalL_len {olds : List Int} : {l : List Px} -> {vs : List Vl} -> evalL olds l = .ok vs -> vs.length = l.length
 | [], vs, h => by rw [evalL] at h; cases h; rfl
 | x :: l, vs, h => by
  rw [evalL] at h
  cases hx : evalX olds x with
  | error e => rw [hx] at h; cases h
  | ok v =>
   rw [hx] at h
   simp only at h
   cases hl : evalL olds l with
   | error e => rw [hl] at h; cases h
   | ok us =>
    rw [hl] at h
    cases h
    simp [evalL_len hl]
section
variable {C : List IV} {L : List Wd} {P : End -> Prop}
theorem cons_path : (rs : List Wd) -> (vs : List Vl) -> (n : Nat) -> (st : List Wd) -> (t : Wd) -> (tv : Vl) -> (h : Hp) -> (lo : Nat) -> rs.length = vs.length -> (∀ i, (h1 : i < rs.length) -> (h2 : i < vs.length) -> HV h lo h.length rs[i] vs[i]) -> lo <= h.length -> HV h lo h.length t tv -> Has C n (List.replicate rs.length (primI sCons 2)) →
  (∀ w h', Ext h h' -> HV h' lo h'.length w (vs.foldl (fun acc v => .pair v acc) tv) -> PathP C L ⟨n + rs.length, st ++ [w], h'⟩ P) -> PathP C L ⟨n, st ++ rs.reverse ++ [t], h⟩ P
 | [], [], n, st, t, tv, h, lo, _, _, _, ht, _, k => by
  have := k t h (Ext.refl h) ht
  simpa using this
 | x :: rs, v :: vs, n, st, t, tv, h, lo, hl, he, hlo, ht, hh, k => by
  have hl' : rs.length = vs.length := by simpa using hl
  have hx : HV h lo h.length x v := he 0 (by simp) (by simp)
  have hh' : Has C n (primI sCons 2 :: List.replicate rs.length (primI sCons 2)) := by simpa [List.replicate_succ] using hh
  have hE : Ext h (h ++ [(x, t)]) := ⟨_, rfl⟩
  have hlen : (h ++ [(x, t)]).length = h.length + 1 := by simp
  have hp : primW h sCons [x, t] = .ok (⟨5, pAt h.length, ⟨#[]⟩⟩, h ++ [(x, t)]) := by unfold primW; simp
  rw [show st ++ (x :: rs).reverse ++ [t] = (st ++ rs.reverse) ++ [x, t] by simp]
  refine PathP.next (.prim hh'.head rfl (by decide) hp) ?_
  refine cons_path rs vs (n + 1) st _ (.pair v tv) _ lo hl' (fun i h1 h2 => (he (i + 1) (by simpa using h1) (by simpa using h2)).ext hE (Nat.le_refl _) (by rw [hlen]; omega)) (by rw [hlen]; omega) ?_ hh'.tail ?_
  ·
   refine .pair h.length (by rw [hlen]; omega) (by omega) (by rw [hlen]; omega) v tv ?_ ?_
   ·
    rw [show (h ++ [(x, t)])[h.length]'(by rw [hlen]; omega) = (x, t) by simp]
    exact hx.ext hE (Nat.le_refl _) (by rw [hlen]; omega)
   rw [show (h ++ [(x, t)])[h.length]'(by rw [hlen]; omega) = (x, t) by simp]
   exact ht.ext hE (Nat.le_refl _) (by rw [hlen]; omega)
  intro w h' he' hv
  have := k w h' (hE.trans he') hv
  rw [show n + 1 + rs.length = n + (x :: rs).length by simp; omega]
  exact this
 | [], _ :: _, _, _, _, _, _, _, hl, _, _, _, _, _ => by simp at hl
 | _ :: _, [], _, _, _, _, _, _, hl, _, _, _, _, _ => by simp at hl
theorem datL_fold (l : List Dt) : datL l = (l.map datV).reverse.foldl (fun acc v => .pair v acc) .nil := by
 rw [List.foldl_reverse]
 induction l with
 | nil => rfl
 | cons d r ih => rw [datL, ih]; rfl
theorem atom_v {h : Hp} {lo hi : Nat} {k n : Int} {s : ByteArray} {l : List Dt} (h1 : 1 <= k) (h3 : k <= 3) : HV h lo hi (atomW k n s) (datV (.mk k n s l)) := by
 rw [datV]
 unfold atomW
 by_cases e2 : k = 2
 ·
  rw [if_pos e2, if_neg (by omega), if_pos e2]; exact .bool n
 rw [if_neg e2]
 by_cases e3 : k = 3
 ·
  rw [if_pos e3, if_neg (by omega), if_neg e2, if_pos e3]; exact .sym s
 rw [if_neg e3, if_pos (by omega)]; exact .int n
mutual
theorem codeD_path : (d : Dt) -> DtK d -> (n : Nat) -> (st : List Wd) -> (h : Hp) -> Has C n (codeD d) -> (∀ w h', Ext h h' -> HV h' h.length h'.length w (datV d) -> PathP C L ⟨n + (codeD d).length, st ++ [w], h'⟩ P) -> PathP C L ⟨n, st, h⟩ P
 | .mk k m s l, .mk _ _ _ _ h1 h4 hl, n, st, h, hh, kk => by
  by_cases hk : k = 4
  ·
   subst hk
   have hc : codeD (.mk 4 m s l) = codeDs l ++ constI nilW :: List.replicate l.length (primI sCons 2) := by rw [codeD, if_pos rfl]
   rw [hc] at hh kk
   refine codeDs_path l hl n st h hh.left ?_
   intro ws h' hE hlen hv
   have hh2 := hh.right
   refine PathP.next (.const hh2.head) ?_
   have hwl : ws.reverse.length = l.length := by simp [hlen]
   have := cons_path (C := C) (L := L) (P := P) ws.reverse (l.map datV).reverse (n + (codeDs l).length + 1) st nilW .nil h' h.length (by simp [hlen]) (fun i i1 i2 => by
    rw [List.getElem_reverse, List.getElem_reverse]
    have e : (l.map datV).length = ws.length := by simp [hlen]
    have hi : ws.length - 1 - i < ws.length := by simp at i1; omega
    have hi2 : ws.length - 1 - i < l.length := by omega
    have := hv (ws.length - 1 - i) hi hi2
    simpa [e] using this) hE.len .nil (by rw [hwl]; exact hh2.tail) (fun w h2 hE2 hv2 => by
    have e := kk w h2 (hE.trans hE2) (by rw [datV, if_neg (by decide), if_neg (by decide), if_neg (by decide), datL_fold]; exact hv2)
    rw [hwl]
    rw [show n + (codeDs l ++ constI nilW :: List.replicate l.length (primI sCons 2)).length = n + (codeDs l).length + 1 + l.length by simp; omega] at e
    exact e)
   rw [List.reverse_reverse] at this
   exact this
  have hc : codeD (.mk k m s l) = [constI (atomW k m s)] := by rw [codeD, if_neg hk]
  rw [hc] at hh kk
  refine PathP.next (.const hh.head) ?_
  have := kk (atomW k m s) h (Ext.refl h) (atom_v h1 (by omega))
  simpa using this
theorem codeDs_path : (l : List Dt) -> (∀ x ∈ l, DtK x) -> (n : Nat) -> (st : List Wd) -> (h : Hp) -> Has C n (codeDs l) -> (∀ ws h', Ext h h' -> ws.length = l.length -> (∀ i, (h1 : i < ws.length) -> (h2 : i < l.length) -> HV h' h.length h'.length ws[i] (datV l[i])) -> PathP C L ⟨n + (codeDs l).length, st ++ ws, h'⟩ P) -> PathP C L ⟨n, st, h⟩ P
 | [], _, n, st, h, _, kk => by
  have := kk [] h (Ext.refl h) rfl (fun i h1 => absurd h1 (by simp))
  simpa [codeDs] using this
 | d :: l, hk, n, st, h, hh, kk => by
  rw [codeDs] at hh kk
  refine codeD_path d (hk d (by simp)) n st h hh.left ?_
  intro w h1 hE1 hv1
  refine codeDs_path l (fun x hx => hk x (List.mem_cons_of_mem _ hx)) _ (st ++ [w]) h1 hh.right ?_
  intro ws h2 hE2 hlen hv2
  have := kk (w :: ws) h2 (hE1.trans hE2) (by simp [hlen]) (fun i i1 i2 => by
   cases i with
   | zero => exact hv1.ext hE2 (Nat.le_refl _) hE2.len
   | succ i => exact (hv2 i (by simpa using i1) (by simpa using i2)).ext (Ext.refl _) hE1.len (Nat.le_refl _))
  rw [show st ++ w :: ws = st ++ [w] ++ ws by simp, show n + (codeD d ++ codeDs l).length = n + (codeD d).length + (codeDs l).length by simp; omega] at this
  exact this
end
inductive PxK (o : Nat) : Px -> Prop
 | const (d : Dt) (h : DtK d) : PxK o (.const d)
 | was (i : Nat) (h : i < o) : PxK o (.was i)
 | ite (a b c : Px) (ha : PxK o a) (hb : PxK o b) (hc : PxK o c) : PxK o (.ite a b c)
 | prim (s : ByteArray) (l : List Px) (h1 : 1 <= l.length) (hl : ∀ x ∈ l, PxK o x) : PxK o (.prim s l)
def EndV (h : Hp) (v : Vl) (r : End) : Prop := ∃ w h', r = .ok (w, h') /\ Ext h h' /\ HV h' h.length h'.length w v
def RunX (C : List IV) (L : List Wd) (olds : List Int) (x : Px) : Prop := ∀ (t : Bool) (n : Nat) (st : List Wd) (h : Hp), Has C n (codeX x t n) →
 match evalX olds x with
 | .ok v => if t = true then PathP C L ⟨n, st, h⟩ (EndV h v) else ∀ P, (∀ w h', Ext h h' -> HV h' h.length h'.length w v -> PathP C L ⟨n + (codeX x t n).length, st ++ [w], h'⟩ P) -> PathP C L ⟨n, st, h⟩ P
 | .error e => PathP C L ⟨n, st, h⟩ (fun r => r = .error e)
def RunL (C : List IV) (L : List Wd) (olds : List Int) (l : List Px) : Prop := ∀ (n : Nat) (st : List Wd) (h : Hp), Has C n (codeL l n) →
 match evalL olds l with
 | .ok vs => ∀ P, (∀ ws h', Ext h h' -> Args h' h.length h'.length ws vs -> PathP C L ⟨n + (codeL l n).length, st ++ ws, h'⟩ P) -> PathP C L ⟨n, st, h⟩ P
 | .error e => PathP C L ⟨n, st, h⟩ (fun r => r = .error e)
variable {olds : List Int}
theorem RunX.ok {x : Px} (hx : RunX C L olds x) {n : Nat} {st : List Wd} {h : Hp} {v : Vl} (hh : Has C n (codeX x false n)) (hv : evalX olds x = .ok v) (k : ∀ w h', Ext h h' -> HV h' h.length h'.length w v -> PathP C L ⟨n + (codeX x false n).length, st ++ [w], h'⟩ P) : PathP C L ⟨n, st, h⟩ P := by
 have := hx false n st h hh
 rw [hv] at this
 exact this P k
theorem RunX.bad {x : Px} (hx : RunX C L olds x) {t : Bool} {n : Nat} {st : List Wd} {h : Hp} {e : Int} (hh : Has C n (codeX x t n)) (hv : evalX olds x = .error e) : PathP C L ⟨n, st, h⟩ (fun r => r = .error e) := by
 have := hx t n st h hh
 rwa [hv] at this
theorem fin_path {h0 : Hp} {v : Vl} {c body : List IV} {t : Bool} {n : Nat} {st : List Wd} (hc : c = body ++ tailI t) (hh : Has C n c) (key : ∀ P, (∀ w h', Ext h0 h' -> HV h' h0.length h'.length w v -> PathP C L ⟨n + body.length, st ++ [w], h'⟩ P) -> PathP C L ⟨n, st, h0⟩ P) :
  if t = true then PathP C L ⟨n, st, h0⟩ (EndV h0 v) else ∀ P, (∀ w h', Ext h0 h' -> HV h' h0.length h'.length w v -> PathP C L ⟨n + c.length, st ++ [w], h'⟩ P) -> PathP C L ⟨n, st, h0⟩ P := by
 subst hc
 cases t with
 | true =>
  rw [if_pos rfl]
  refine key _ fun w h' hE hv => ?_
  exact .stop (.ret (hh.right.head (c := []))) ⟨w, h', rfl, hE, hv⟩
 | false =>
  rw [if_neg (by decide)]
  intro P k
  refine key P fun w h' hE hv => ?_
  have := k w h' hE hv
  simpa [tailI] using this
mutual
theorem runX {o : Nat} (hL : ∀ i, i < o -> L[i]? = some ⟨1, olds.getD i 0, ⟨#[]⟩⟩) : (x : Px) -> PxK o x -> RunX C L olds x
 | .const d, hk => by
  cases hk with
  | const _ hd =>
   intro t n st h hh
   rw [evalX]
   simp only
   refine fin_path (body := tickI :: codeD d) (by rw [codeX]; rfl) hh fun P k => ?_
   rw [codeX] at hh
   refine .next (.tick hh.head) ?_
   refine codeD_path d hd (n + 1) st h hh.tail.left ?_
   intro w h' hE hv
   have := k w h' hE hv
   rwa [show n + (tickI :: codeD d).length = n + 1 + (codeD d).length by simp; omega] at this
 | .was i, hk => by
  cases hk with
  | was _ hi =>
   intro t n st h hh
   rw [evalX]
   simp only
   refine fin_path (body := [tickI, localI i]) (by rw [codeX]; rfl) hh fun P k => ?_
   rw [codeX] at hh
   refine .next (.tick hh.head) (.next (.local_ hh.tail.head (hL i hi)) ?_)
   exact k _ h (Ext.refl h) (.int _)
 | .prim s l, hk => by
  cases hk with
  | prim _ _ h1 hl =>
   intro t n st h hh
   have ih := runL hL l hl (n + 1) st h
   have hc : codeX (.prim s l) t n = (tickI :: (codeL l (n + 1) ++ [primI s l.length])) ++ tailI t := by rw [codeX]; simp
   have hh2 := hh
   rw [hc] at hh2
   have hb : Has C (n + 1) (codeL l (n + 1) ++ [primI s l.length]) := hh2.left.tail
   have ih := ih hb.left
   rw [evalX]
   cases he : evalL olds l with
   | error e =>
    rw [he] at ih
    simp only
    exact .next (.tick hh2.head) ih
   | ok vs =>
    rw [he] at ih
    simp only
    cases hp : primV s vs with
    | error e =>
     simp only
     refine .next (.tick hh2.head) (ih _ fun ws h' hE ha => ?_)
     have hlen := ha.len.1
     have hln : vs.length = l.length := evalL_len he
     exact .stop (.primE hb.right.head (by omega) h1 ((prim_w ha).2 e hp)) rfl
    | ok v =>
     simp only
     refine fin_path hc hh fun P k => ?_
     refine .next (.tick hh2.head) (ih _ fun ws h' hE ha => ?_)
     have hlen := ha.len.1
     have hln : vs.length = l.length := evalL_len he
     obtain ⟨w, h2, hw, hE2, hv⟩ := (prim_w ha).1 v hp
     refine .next (.prim hb.right.head (by omega) h1 hw) ?_
     have := k w h2 (hE.trans hE2) hv
     rwa [show n + (tickI :: (codeL l (n + 1) ++ [primI s l.length])).length = n + 1 + (codeL l (n + 1)).length + 1 by simp; omega] at this
 | .ite a b c, hk => by
  cases hk with
  | ite _ _ _ ha hb hc =>
   intro t n st h hh
   have iha := runX hL a ha
   have ihb := runX hL b hb
   have ihc := runX hL c hc
   obtain ⟨ca, hca⟩ : ∃ ca, codeX a false (n + 1) = ca := ⟨_, rfl⟩
   obtain ⟨nb, hnb⟩ : ∃ nb, n + 1 + ca.length + 1 = nb := ⟨_, rfl⟩
   obtain ⟨cb, hcb⟩ : ∃ cb, codeX b t nb = cb := ⟨_, rfl⟩
   obtain ⟨nc, hnc⟩ : ∃ nc, nb + cb.length + (if t = true then 0 else 1) = nc := ⟨_, rfl⟩
   obtain ⟨cc, hcc⟩ : ∃ cc, codeX c t nc = cc := ⟨_, rfl⟩
   have hcode : codeX (.ite a b c) t n = tickI :: (ca ++ elseI nc :: (cb ++ (if t = true then [] else [jumpI (nc + cc.length)]) ++ cc)) := by
    rw [codeX]
    simp only [hca, hnb, hcb, hnc, hcc]
   rw [hcode] at hh ⊢
   have h1 : Has C (n + 1) (codeX a false (n + 1)) := by rw [hca]; exact hh.tail.left
   have h2 := hh.tail.right
   have h3 : Has C nb (cb ++ (if t = true then [] else [jumpI (nc + cc.length)]) ++ cc) := by have := h2.tail; rwa [hnb] at this
   have h4 : Has C nb (codeX b t nb) := by rw [hcb]; exact h3.left.left
   have h5 : Has C nc (codeX c t nc) := by
    have := h3.right
    rw [hcc]
    have e : nb + (cb ++ if t = true then [] else [jumpI (nc + cc.length)]).length = nc := by rw [<- hnc]; cases t <;> simp <;> omega
    rwa [e] at this
   rw [evalX]
   cases hea : evalX olds a with
   | error e =>
    simp only
    exact .next (.tick hh.head) (iha.bad h1 hea)
   | ok v =>
    simp only
    have hgo : ∀ (P : End -> Prop) (w : Wd) (h' : Hp), HV h' h.length h'.length w v -> PathP C L ⟨if isF v = true then nc else nb, st, h'⟩ P -> PathP C L ⟨n + 1 + (codeX a false (n + 1)).length, st ++ [w], h'⟩ P := by
     intro P w h' hv k
     rw [hca]
     have := Step.else_ (C := C) (L := L) (pc := n + 1 + ca.length) (st := st) (hp := h') (n := nc) (w := w) h2.head (by rw [<- hnc, <- hnb]; omega)
     rw [isF_iff hv] at this
     refine .next this ?_
     rw [show n + 1 + ca.length + 1 = nb from hnb]
     exact k
    cases hf : isF v with
    | true =>
     rw [if_pos rfl]
     have ih := ihc t nc st
     cases hec : evalX olds c with
     | error e =>
      simp only
      refine .next (.tick hh.head) (iha.ok h1 hea fun w h' hE hv => hgo _ w h' hv ?_)
      rw [hf, if_pos rfl]
      exact ihc.bad h5 hec
     | ok u =>
      simp only
      cases t with
      | true =>
       rw [if_pos rfl]
       refine .next (.tick hh.head) (iha.ok h1 hea fun w h' hE hv => hgo _ w h' hv ?_)
       rw [hf, if_pos rfl]
       have := ih h' h5
       rw [hec] at this
       obtain ⟨r, hr, w2, h2', e2, hE2, hv2⟩ := this
       exact ⟨r, hr, w2, h2', e2, hE.trans hE2, hv2.ext (Ext.refl _) hE.len (Nat.le_refl _)⟩
      | false =>
       rw [if_neg (by decide)]
       intro P k
       refine .next (.tick hh.head) (iha.ok h1 hea fun w h' hE hv => hgo _ w h' hv ?_)
       rw [hf, if_pos rfl]
       refine ihc.ok h5 hec fun w2 h2' hE2 hv2 => ?_
       have := k w2 h2' (hE.trans hE2) (hv2.ext (Ext.refl _) hE.len (Nat.le_refl _))
       rw [hcc]
       have e : n + (tickI :: (ca ++ elseI nc :: (cb ++ (if (false : Bool) = true then [] else [jumpI (nc + cc.length)]) ++ cc))).length = nc + cc.length := by
        rw [<- hnc, <- hnb]; simp; omega
       rwa [e] at this
    | false =>
     rw [if_neg (by decide)]
     have ih := ihb t nb st
     cases heb : evalX olds b with
     | error e =>
      simp only
      refine .next (.tick hh.head) (iha.ok h1 hea fun w h' hE hv => hgo _ w h' hv ?_)
      rw [hf, if_neg (by decide)]
      exact ihb.bad h4 heb
     | ok u =>
      simp only
      cases t with
      | true =>
       rw [if_pos rfl]
       refine .next (.tick hh.head) (iha.ok h1 hea fun w h' hE hv => hgo _ w h' hv ?_)
       rw [hf, if_neg (by decide)]
       have := ih h' h4
       rw [heb] at this
       obtain ⟨r, hr, w2, h2', e2, hE2, hv2⟩ := this
       exact ⟨r, hr, w2, h2', e2, hE.trans hE2, hv2.ext (Ext.refl _) hE.len (Nat.le_refl _)⟩
      | false =>
       rw [if_neg (by decide)]
       intro P k
       refine .next (.tick hh.head) (iha.ok h1 hea fun w h' hE hv => hgo _ w h' hv ?_)
       rw [hf, if_neg (by decide)]
       refine ihb.ok h4 heb fun w2 h2' hE2 hv2 => ?_
       have := k w2 h2' (hE.trans hE2) (hv2.ext (Ext.refl _) hE.len (Nat.le_refl _))
       rw [hcb]
       have hj : C[nb + cb.length]? = some (jumpI (nc + cc.length)) := h3.left.right.head
       refine .next (.jump hj (by rw [<- hnc]; simp; omega)) ?_
       have e : n + (tickI :: (ca ++ elseI nc :: (cb ++ (if (false : Bool) = true then [] else [jumpI (nc + cc.length)]) ++ cc))).length = nc + cc.length := by
        rw [<- hnc, <- hnb]; simp; omega
       rwa [e] at this
theorem runL {o : Nat} (hL : ∀ i, i < o -> L[i]? = some ⟨1, olds.getD i 0, ⟨#[]⟩⟩) : (l : List Px) -> (∀ x ∈ l, PxK o x) -> RunL C L olds l
 | [], _ => by
  intro n st h hh
  rw [evalL]
  simp only
  intro P k
  have := k [] h (Ext.refl h) (Nat.le_refl _)
  simpa [codeL] using this
 | x :: l, hk => by
  intro n st h hh
  have ih := runX hL x (hk x (by simp))
  have ihl := runL hL l (fun y hy => hk y (List.mem_cons_of_mem _ hy))
  rw [codeL] at hh
  rw [evalL]
  cases he : evalX olds x with
  | error e =>
   simp only
   exact ih.bad hh.left he
  | ok v =>
   simp only
   cases hl : evalL olds l with
   | error e =>
    simp only
    refine ih.ok hh.left he fun w h' hE hv => ?_
    have := ihl _ (st ++ [w]) h' hh.right
    rw [hl] at this
    exact this
   | ok vs =>
    simp only
    intro P k
    refine ih.ok hh.left he fun w h' hE hv => ?_
    have := ihl _ (st ++ [w]) h' hh.right
    rw [hl] at this
    refine this P fun ws h2 hE2 ha => ?_
    have := k (w :: ws) h2 (hE.trans hE2) ⟨h'.length, hE.len, hv.ext hE2 (Nat.le_refl _) (Nat.le_refl _), ha⟩
    rw [codeL] at this
    rw [show st ++ w :: ws = st ++ [w] ++ ws by simp, show n + (codeX x false n ++ codeL l (n + (codeX x false n).length)).length = n + (codeX x false n).length + (codeL l (n + (codeX x false n).length)).length by simp; omega] at this
    exact this
end
end
/- The code of an upgrade's expression may be a function's (P4.3): the heights of its values: no program in sight. -/
def WOk (w : Wd) : Prop := (w.k = 1 /\ -big <= w.n /\ w.n <= big /\ w.s = ⟨#[]⟩) \/ (w.k = 2 /\ 0 <= w.n /\ w.n <= 1 /\ w.s = ⟨#[]⟩) \/ (w.k = 3 /\ w.n = 0 /\ w.s = ⟨#[]⟩) \/ (w.k = 4 /\ w.n = 0 /\ 1 <= w.s.size /\ w.s.size <= 16)
inductive DtW : Dt -> Prop
 | mk (k n : Int) (s : ByteArray) (l : List Dt) (h1 : 1 <= k) (h4 : k <= 4) (hw : k ≠ 4 -> WOk (atomW k n s)) (hl : ∀ x ∈ l, DtW x) : DtW (.mk k n s l)
theorem DtW.k {d : Dt} (h : DtW d) : DtK d := by
 induction h with
 | mk k n s l h1 h4 hw hl ih => exact .mk k n s l h1 h4 ih
def arP (s : ByteArray) : Nat :=
 if s = sPlus \/ s = sMinus \/ s = sTimes \/ s = sQuot \/ s = sRem \/ s = sEq \/ s = sLt \/ s = sCons \/ s = sEqq then 2
 else if s = sCar \/ s = sCdr \/ s = sNull \/ s = sPair \/ s = sNot \/ s = sError then 1 else 0
inductive PxW (o : Nat) : Px -> Prop
 | const (d : Dt) (h : DtW d) : PxW o (.const d)
 | was (i : Nat) (h : i < o) : PxW o (.was i)
 | ite (a b c : Px) (ha : PxW o a) (hb : PxW o b) (hc : PxW o c) : PxW o (.ite a b c)
 | prim (s : ByteArray) (l : List Px) (h0 : 1 <= l.length) (h1 : arP s = l.length) (hl : ∀ x ∈ l, PxW o x) : PxW o (.prim s l)
theorem PxW.k {o : Nat} {x : Px} (h : PxW o x) : PxK o x := by
 induction h with
 | const d h => exact .const d h.k
 | was i h => exact .was i h
 | ite a b c _ _ _ iha ihb ihc => exact .ite a b c iha ihb ihc
 | prim s l h0 h1 hl ih => exact .prim s l h0 ih
inductive Flow (o : Nat) : IV -> Nat -> Nat -> Prop
 | tick : Flow o tickI 0 0
 | const {w} (h : WOk w) : Flow o (constI w) 0 1
 | local_ {i} (h : i < o) : Flow o (localI i) 0 1
 | prim {s n} (h : arP s = n) (h1 : 1 <= n) : Flow o (primI s n) n 1
inductive Chk (C : List IV) (o : Nat) : Nat -> List Nat -> Prop
 | done {H} : Chk C o C.length H
 | flow {a H i h t l} (hi : C[a]? = some i) (hk : Flow o i t l) (hh : H[a]? = some (h + 1)) (hle : t <= h) (hb : h - t + l <= 6000) (hn : a + 1 < C.length) (hx : H[a + 1]? = some 0 \/ H[a + 1]? = some (h - t + l + 1)) (k : Chk C o (a + 1) (H.set (a + 1) (h - t + l + 1))) : Chk C o a H
 | ret {a H h} (hi : C[a]? = some retI) (hh : H[a]? = some (h + 1)) (hle : 1 <= h) (hb : h <= 6000) (k : Chk C o (a + 1) H) : Chk C o a H
 | jump {a H h n} (hi : C[a]? = some (jumpI n)) (hh : H[a]? = some (h + 1)) (hb : h <= 6000) (hn : a + 1 <= n) (hn2 : n < C.length) (hx : H[n]? = some 0 \/ H[n]? = some (h + 1)) (k : Chk C o (a + 1) (H.set n (h + 1))) : Chk C o a H
 | else_ {a H h n} (hi : C[a]? = some (elseI n)) (hh : H[a]? = some (h + 1 + 1)) (hb : h <= 6000) (hn : a + 1 < n) (hn2 : n < C.length) (hx : H[n]? = some 0 \/ H[n]? = some (h + 1)) (hx2 : H[a + 1]? = some 0 \/ H[a + 1]? = some (h + 1)) (k : Chk C o (a + 1) ((H.set n (h + 1)).set (a + 1) (h + 1))) : Chk C o a H
def Flows (C : List IV) (o n len e e' : Nat) : Prop := ∀ H : List Nat, H.length = C.length -> H[n]? = some (e + 1) -> (∀ i, n < i -> i < n + len -> H[i]? = some 0) -> (0 < len -> H[n + len]? = some 0 \/ H[n + len]? = some (e' + 1)) →
 (∀ H' : List Nat, H'.length = C.length -> (∀ i, n + len < i -> H'[i]? = H[i]?) -> H'[n + len]? = some (e' + 1) -> Chk C o (n + len) H') -> Chk C o n H
def TFlows (C : List IV) (o n len e : Nat) : Prop := ∀ H : List Nat, H.length = C.length -> H[n]? = some (e + 1) -> (∀ i, n < i -> i < n + len -> H[i]? = some 0) →
 (∀ H' : List Nat, H'.length = C.length -> (∀ i, n + len <= i -> H'[i]? = H[i]?) -> Chk C o (n + len) H') -> Chk C o n H
section
variable {C : List IV} {o : Nat}
theorem Flows.zero {n e : Nat} : Flows C o n 0 e e := fun H hl h0 _ _ k => k H hl (fun _ _ => rfl) h0
theorem Flows.comp {n l1 l2 e e1 e2 : Nat} (h1 : Flows C o n l1 e e1) (h2 : Flows C o (n + l1) l2 e1 e2) (hz : l2 = 0 -> e1 = e2) : Flows C o n (l1 + l2) e e2 := by
 intro H hl h0 hzero hend k
 refine h1 H hl h0 (fun i i1 i2 => hzero i i1 (by omega)) (fun hp => ?_) fun H1 hl1 hk1 he1 => ?_
 ·
  rcases Nat.eq_zero_or_pos l2 with h | h
  ·
   subst h
   rw [hz rfl]
   exact hend (by omega)
  exact Or.inl (hzero _ (by omega) (by omega))
 refine h2 H1 hl1 he1 (fun i i1 i2 => (hk1 i i1).trans (hzero i (by omega) (by omega))) (fun hp => ?_) fun H2 hl2 hk2 he2 => ?_
 ·
  rw [hk1 _ (by omega), Nat.add_assoc]
  exact hend (by omega)
 have := k H2 hl2 (fun i hi => (hk2 i (by omega)).trans (hk1 i (by omega))) (by rw [<- Nat.add_assoc]; exact he2)
 rwa [<- Nat.add_assoc] at this
theorem Flows.comp_t {n l1 l2 e e1 : Nat} (h1 : Flows C o n l1 e e1) (h2 : TFlows C o (n + l1) l2 e1) (hz : 0 < l2) : TFlows C o n (l1 + l2) e := by
 intro H hl h0 hzero k
 refine h1 H hl h0 (fun i i1 i2 => hzero i i1 (by omega)) (fun hp => Or.inl (hzero _ (by omega) (by omega))) fun H1 hl1 hk1 he1 => ?_
 refine h2 H1 hl1 he1 (fun i i1 i2 => (hk1 i i1).trans (hzero i (by omega) (by omega))) fun H2 hl2 hk2 => ?_
 have := k H2 hl2 (fun i hi => (hk2 i (by omega)).trans (hk1 i (by omega)))
 rwa [<- Nat.add_assoc] at this
theorem Flows.one {n e t l : Nat} {i : IV} (hi : C[n]? = some i) (hk : Flow o i t l) (hle : t <= e) (hb : e - t + l <= 6000) (hn : n + 1 < C.length) : Flows C o n 1 e (e - t + l) := by
 intro H hl h0 _ hend k
 refine .flow hi hk h0 hle hb hn (hend (by omega)) (k _ (by simp [hl]) (fun j hj => ?_) ?_)
 ·
  rw [List.getElem?_set_ne (by omega)]
 rw [List.getElem?_set_self (by omega)]
theorem TFlows.ret {n e : Nat} (hi : C[n]? = some retI) (hle : 1 <= e) (hb : e <= 6000) : TFlows C o n 1 e := by
 intro H hl h0 _ k
 exact .ret hi h0 hle hb (k H hl (fun _ _ => rfl))
theorem Has.lt {c : List IV} {n : Nat} (h : Has C n c) (hc : 0 < c.length) : n + c.length <= C.length := by
 have := h (c.length - 1) (by omega)
 rw [List.getElem?_eq_getElem (show c.length - 1 < c.length by omega)] at this
 have := (List.getElem?_eq_some_iff.1 this).1
 omega
theorem flows_cons : (m n e : Nat) -> Has C n (List.replicate m (primI sCons 2)) -> n + m < C.length -> e + m + 1 <= 6000 -> Flows C o n m (e + m + 1) (e + 1)
 | 0, n, e, _, _, _ => Flows.zero
 | m + 1, n, e, hh, hn, hb => by
  have hh' : Has C n (primI sCons 2 :: List.replicate m (primI sCons 2)) := by simpa [List.replicate_succ] using hh
  have h1 := Flows.one (C := C) (o := o) (n := n) (e := e + (m + 1) + 1) hh'.head (.prim (s := sCons) (n := 2) rfl (by decide)) (by omega) (by omega) (by omega)
  rw [show e + (m + 1) + 1 - 2 + 1 = e + m + 1 by omega] at h1
  have := h1.comp (flows_cons m (n + 1) e hh'.tail (by omega) (by omega)) (fun h => by subst h; rfl)
  rwa [Nat.add_comm 1 m] at this
mutual
theorem flows_d : (d : Dt) -> DtW d -> (n e : Nat) -> Has C n (codeD d) -> n + (codeD d).length < C.length -> e <= n -> C.length <= 6000 -> Flows C o n (codeD d).length e (e + 1)
 | .mk k m s l, .mk _ _ _ _ h1 h4 hw hl, n, e, hh, hn, he, hC => by
  by_cases hk : k = 4
  ·
   subst hk
   have hc : codeD (.mk 4 m s l) = codeDs l ++ constI nilW :: List.replicate l.length (primI sCons 2) := by rw [codeD, if_pos rfl]
   rw [hc] at hh hn ⊢
   have hln : (codeDs l ++ constI nilW :: List.replicate l.length (primI sCons 2)).length = (codeDs l).length + (1 + l.length) := by simp; omega
   rw [hln] at hn ⊢
   have hd := codeDs_len l
   have a := flows_ds l hl n e hh.left (by omega) he hC
   have b := Flows.one (C := C) (o := o) (n := n + (codeDs l).length) (e := e + l.length) hh.right.head (.const (w := nilW) (Or.inr (Or.inr (Or.inl ⟨rfl, rfl, rfl⟩)))) (Nat.zero_le _) (by omega) (by omega)
   have c := flows_cons (C := C) (o := o) l.length (n + (codeDs l).length + 1) e hh.right.tail (by omega) (by omega)
   rw [show e + l.length - 0 + 1 = e + l.length + 1 by omega] at b
   refine a.comp ?_ (fun h => by omega)
   exact b.comp c (fun h => by rw [h])
  ·
   have hc : codeD (.mk k m s l) = [constI (atomW k m s)] := by rw [codeD, if_neg hk]
   rw [hc] at hh hn ⊢
   have := Flows.one (C := C) (o := o) (n := n) (e := e) hh.head (.const (hw hk)) (Nat.zero_le _) (by simp at hn; omega) (by simpa using hn)
   exact this
theorem flows_ds : (l : List Dt) -> (∀ x ∈ l, DtW x) -> (n e : Nat) -> Has C n (codeDs l) -> n + (codeDs l).length < C.length -> e <= n -> C.length <= 6000 -> Flows C o n (codeDs l).length e (e + l.length)
 | [], _, n, e, _, _, _, _ => Flows.zero
 | d :: l, hk, n, e, hh, hn, he, hC => by
  rw [codeDs] at hh hn ⊢
  have hln : (codeD d ++ codeDs l).length = (codeD d).length + (codeDs l).length := by simp
  rw [hln] at hn ⊢
  have hd := codeD_len d
  have a := flows_d d (hk d (by simp)) n e hh.left (by omega) he hC
  have b := flows_ds l (fun x hx => hk x (List.mem_cons_of_mem _ hx)) (n + (codeD d).length) (e + 1) hh.right (by omega) (by omega) hC
  rw [show e + (d :: l).length = e + 1 + l.length by simp; omega]
  have hdl := codeDs_len l
  refine a.comp b (fun h => ?_)
  have : l.length = 0 := by omega
  omega
theorem codeD_len : (d : Dt) -> 1 <= (codeD d).length
 | .mk k m s l => by
  rw [codeD]
  split
  ·
   simp; omega
  simp
theorem codeDs_len : (l : List Dt) -> l.length <= (codeDs l).length
 | [] => by simp [codeDs]
 | d :: l => by
  have h1 := codeD_len d
  have h2 := codeDs_len l
  rw [codeDs]
  simp
  omega
end
theorem codeX_len : (x : Px) -> (t : Bool) -> (n : Nat) -> 1 <= (codeX x t n).length
 | .const _, t, n => by rw [codeX]; simp
 | .was _, t, n => by rw [codeX]; simp
 | .ite _ _ _, t, n => by rw [codeX]; simp
 | .prim _ _, t, n => by rw [codeX]; simp
theorem codeL_len : (l : List Px) -> (n : Nat) -> l.length <= (codeL l n).length
 | [], n => by simp [codeL]
 | x :: l, n => by
  have h1 := codeX_len x false n
  have h2 := codeL_len l (n + (codeX x false n).length)
  rw [codeL]
  simp
  omega
theorem ite_parts {a b c : Px} {t : Bool} {n : Nat} (h : Has C n (codeX (.ite a b c) t n)) : ∃ ca nb cb nc cc, codeX a false (n + 1) = ca /\ n + 1 + ca.length + 1 = nb /\ codeX b t nb = cb /\ nb + cb.length + (if t = true then 0 else 1) = nc /\ codeX c t nc = cc /\ (codeX (.ite a b c) t n).length = 1 + ca.length + 1 + cb.length + (if t = true then 0 else 1) + cc.length ∧
  C[n]? = some tickI /\ Has C (n + 1) ca /\ C[n + 1 + ca.length]? = some (elseI nc) /\ Has C nb cb /\ Has C nc cc /\ (t = false -> C[nb + cb.length]? = some (jumpI (nc + cc.length))) := by
 obtain ⟨ca, hca⟩ : ∃ ca, codeX a false (n + 1) = ca := ⟨_, rfl⟩
 obtain ⟨nb, hnb⟩ : ∃ nb, n + 1 + ca.length + 1 = nb := ⟨_, rfl⟩
 obtain ⟨cb, hcb⟩ : ∃ cb, codeX b t nb = cb := ⟨_, rfl⟩
 obtain ⟨nc, hnc⟩ : ∃ nc, nb + cb.length + (if t = true then 0 else 1) = nc := ⟨_, rfl⟩
 obtain ⟨cc, hcc⟩ : ∃ cc, codeX c t nc = cc := ⟨_, rfl⟩
 have hcode : codeX (.ite a b c) t n = tickI :: (ca ++ elseI nc :: (cb ++ (if t = true then [] else [jumpI (nc + cc.length)]) ++ cc)) := by
  rw [codeX]
  simp only [hca, hnb, hcb, hnc, hcc]
 rw [hcode] at h ⊢
 have h2 := h.tail.right
 have h3 : Has C nb (cb ++ (if t = true then [] else [jumpI (nc + cc.length)]) ++ cc) := by have := h2.tail; rwa [hnb] at this
 refine ⟨ca, nb, cb, nc, cc, hca, hnb, hcb, hnc, hcc, ?_, h.head, h.tail.left, h2.head, h3.left.left, ?_, ?_⟩
 ·
  cases t <;> simp <;> omega
 ·
  have := h3.right
  have e : nb + (cb ++ if t = true then [] else [jumpI (nc + cc.length)]).length = nc := by rw [<- hnc]; cases t <;> simp <;> omega
  rwa [e] at this
 intro ht
 subst ht
 exact h3.left.right.head
mutual
theorem flows_x : (x : Px) -> PxW o x -> (n e : Nat) -> Has C n (codeX x false n) -> n + (codeX x false n).length < C.length -> e <= n -> C.length <= 6000 -> Flows C o n (codeX x false n).length e (e + 1)
 | .const d, .const _ hd, n, e, hh, hn, he, hC => by
  have hc : codeX (.const d) false n = tickI :: codeD d := by rw [codeX]; simp [tailI]
  rw [hc] at hh hn ⊢
  simp only [List.length_cons] at hn
  have a := Flows.one (C := C) (o := o) (n := n) (e := e) hh.head .tick (Nat.zero_le _) (by omega) (by omega)
  have := a.comp (flows_d (C := C) (o := o) d hd (n + 1) e hh.tail (by omega) (by omega) hC) (fun h => by have := codeD_len (C := C) (o := o) d; omega)
  rwa [Nat.add_comm 1] at this
 | .was i, .was _ hi, n, e, hh, hn, he, hC => by
  have hc : codeX (.was i) false n = [tickI, localI i] := by rw [codeX]; simp [tailI]
  rw [hc] at hh hn ⊢
  simp only [List.length_cons, List.length_nil] at hn
  have a := Flows.one (C := C) (o := o) (n := n) (e := e) hh.head .tick (Nat.zero_le _) (by omega) (by omega)
  exact a.comp (Flows.one (C := C) (o := o) (n := n + 1) (e := e) hh.tail.head (.local_ hi) (Nat.zero_le _) (by omega) (by omega)) (fun h => by cases h)
 | .prim s l, .prim _ _ h0 h1 hl, n, e, hh, hn, he, hC => by
  have hc : codeX (.prim s l) false n = tickI :: (codeL l (n + 1) ++ [primI s l.length]) := by rw [codeX]; simp [tailI]
  rw [hc] at hh hn ⊢
  have hln : (tickI :: (codeL l (n + 1) ++ [primI s l.length])).length = 1 + ((codeL l (n + 1)).length + 1) := by simp; omega
  rw [hln] at hn ⊢
  have a := Flows.one (C := C) (o := o) (n := n) (e := e) hh.head .tick (Nat.zero_le _) (by omega) (by omega)
  have b := flows_l l hl (n + 1) e hh.tail.left (by omega) (by omega) hC
  have hll := codeL_len l (n + 1)
  have c := Flows.one (C := C) (o := o) (n := n + 1 + (codeL l (n + 1)).length) (e := e + l.length) hh.tail.right.head (.prim h1 h0) (by omega) (by omega) (by omega)
  rw [show e + l.length - l.length + 1 = e + 1 by omega] at c
  exact a.comp (b.comp c (fun h => by cases h)) (fun h => by omega)
 | .ite a b c, .ite _ _ _ ha hb hc, n, e, hh, hn, he, hC => by
  obtain ⟨ca, nb, cb, nc, cc, hca, hnb, hcb, hnc, hcc, hlen, h1, h2, h3, h4, h5, h6⟩ := ite_parts hh
  have l1 := codeX_len a false (n + 1)
  have l2 := codeX_len b false nb
  have l3 := codeX_len c false nc
  rw [hca] at l1
  rw [hcb] at l2
  rw [hcc] at l3
  rw [hlen] at hn ⊢
  simp only [Bool.false_eq_true, if_false] at hn hnc ⊢
  have A := (Flows.one (C := C) (o := o) (n := n) (e := e) h1 .tick (Nat.zero_le _) (by omega) (by omega)).comp (by have := flows_x a ha (n + 1) e (by rw [hca]; exact h2) (by rw [hca]; omega) (by omega) hC; rwa [hca] at this) (fun h => by omega)
  have B := flows_x b hb nb e (by rw [hcb]; exact h4) (by rw [hcb]; omega) (by omega) hC
  have D := flows_x c hc nc e (by rw [hcc]; exact h5) (by rw [hcc]; omega) (by omega) hC
  rw [hcb] at B
  rw [hcc] at D
  intro H hl h0 hz hend k
  refine A H hl h0 (fun i i1 i2 => hz i i1 (by omega)) (fun _ => Or.inl (hz _ (by omega) (by omega))) fun H1 hl1 hk1 he1 => ?_
  have hp : n + (1 + ca.length) = n + 1 + ca.length := by omega
  rw [hp] at he1 hk1 ⊢
  have hH1 : ∀ i, n + 1 + ca.length < i -> i < nc + cc.length -> H1[i]? = some 0 := fun i i1 i2 => (hk1 i i1).trans (hz i (by omega) (by omega))
  refine .else_ h3 he1 (by omega) (by omega) (by omega) (Or.inl (hH1 _ (by omega) (by omega))) (Or.inl (hH1 _ (by omega) (by omega))) ?_
  rw [hnb]
  refine B _ (by simp [hl1]) (by rw [List.getElem?_set_self (by simp; omega)]) (fun i i1 i2 => ?_) (fun _ => Or.inl ?_) fun H3 hl3 hk3 he3 => ?_
  ·
   rw [List.getElem?_set_ne (by omega), List.getElem?_set_ne (by omega)]; exact hH1 i (by omega) (by omega)
  ·
   rw [List.getElem?_set_ne (by omega), List.getElem?_set_ne (by omega)]; exact hH1 _ (by omega) (by omega)
  have hk3' : ∀ i, nb + cb.length < i -> i ≠ nc -> H3[i]? = H[i]? := fun i i1 i2 => by
   rw [hk3 i i1, List.getElem?_set_ne (by omega), List.getElem?_set_ne (by omega)]; exact hk1 i (by omega)
  have hnc3 : H3[nc]? = some (e + 1) := by
   rw [hk3 nc (by omega), List.getElem?_set_ne (by omega), List.getElem?_set_self (by omega)]
  refine .jump (h6 rfl) he3 (by omega) (by omega) (by omega) ?_ ?_
  ·
   rw [hk3' _ (by omega) (by omega)]
   have := hend (by omega)
   rwa [show n + (1 + ca.length + 1 + cb.length + 1 + cc.length) = nc + cc.length by omega] at this
  rw [show nb + cb.length + 1 = nc from hnc]
  refine D _ (by simp [hl3]) (by rw [List.getElem?_set_ne (by omega)]; exact hnc3) (fun i i1 i2 => ?_) (fun _ => Or.inr (by rw [List.getElem?_set_self (by omega)])) fun H5 hl5 hk5 he5 => ?_
  ·
   rw [List.getElem?_set_ne (by omega), hk3' i (by omega) (by omega)]; exact hz i (by omega) (by omega)
  have := k H5 hl5 (fun i hi => by rw [hk5 i (by omega), List.getElem?_set_ne (by omega)]; exact hk3' i (by omega) (by omega)) (by rw [show n + (1 + ca.length + 1 + cb.length + 1 + cc.length) = nc + cc.length by omega]; exact he5)
  rwa [show n + (1 + ca.length + 1 + cb.length + 1 + cc.length) = nc + cc.length by omega] at this
theorem flows_l : (l : List Px) -> (∀ x ∈ l, PxW o x) -> (n e : Nat) -> Has C n (codeL l n) -> n + (codeL l n).length < C.length -> e <= n -> C.length <= 6000 -> Flows C o n (codeL l n).length e (e + l.length)
 | [], _, n, e, _, _, _, _ => Flows.zero
 | x :: l, hk, n, e, hh, hn, he, hC => by
  rw [codeL] at hh hn ⊢
  have hln : (codeX x false n ++ codeL l (n + (codeX x false n).length)).length = (codeX x false n).length + (codeL l (n + (codeX x false n).length)).length := by simp
  rw [hln] at hn ⊢
  have hd := codeX_len x false n
  have hdl := codeL_len l (n + (codeX x false n).length)
  have a := flows_x x (hk x (by simp)) n e hh.left (by omega) he hC
  have b := flows_l l (fun y hy => hk y (List.mem_cons_of_mem _ hy)) (n + (codeX x false n).length) (e + 1) hh.right (by omega) (by omega) hC
  rw [show e + (x :: l).length = e + 1 + l.length by simp; omega]
  refine a.comp b (fun h => ?_)
  have : l.length = 0 := by omega
  omega
end
theorem tflows_x : (x : Px) -> PxW o x -> (n e : Nat) -> Has C n (codeX x true n) -> e <= n -> C.length <= 6000 -> TFlows C o n (codeX x true n).length e
 | .const d, .const _ hd, n, e, hh, he, hC => by
  have hc : codeX (.const d) true n = tickI :: (codeD d ++ [retI]) := by rw [codeX]; simp [tailI]
  rw [hc] at hh ⊢
  have hlt := hh.lt (by simp)
  have hln : (tickI :: (codeD d ++ [retI])).length = 1 + ((codeD d).length + 1) := by simp; omega
  rw [hln] at hlt ⊢
  have a := Flows.one (C := C) (o := o) (n := n) (e := e) hh.head .tick (Nat.zero_le _) (by omega) (by omega)
  have b := flows_d (C := C) (o := o) d hd (n + 1) e hh.tail.left (by omega) (by omega) hC
  exact a.comp_t (b.comp_t (.ret hh.tail.right.head (by omega) (by omega)) (by decide)) (by omega)
 | .was i, .was _ hi, n, e, hh, he, hC => by
  have hc : codeX (.was i) true n = [tickI, localI i, retI] := by rw [codeX]; simp [tailI]
  rw [hc] at hh ⊢
  have hlt := hh.lt (by simp)
  simp only [List.length_cons, List.length_nil] at hlt
  have a := Flows.one (C := C) (o := o) (n := n) (e := e) hh.head .tick (Nat.zero_le _) (by omega) (by omega)
  have b := Flows.one (C := C) (o := o) (n := n + 1) (e := e) hh.tail.head (.local_ hi) (Nat.zero_le _) (by omega) (by omega)
  exact a.comp_t (l2 := 2) (b.comp_t (l2 := 1) (.ret hh.tail.tail.head (by omega) (by omega)) (by decide)) (by decide)
 | .prim s l, .prim _ _ h0 h1 hl, n, e, hh, he, hC => by
  have hc : codeX (.prim s l) true n = tickI :: (codeL l (n + 1) ++ [primI s l.length, retI]) := by rw [codeX]; simp [tailI]
  rw [hc] at hh ⊢
  have hlt := hh.lt (by simp)
  have hln : (tickI :: (codeL l (n + 1) ++ [primI s l.length, retI])).length = 1 + ((codeL l (n + 1)).length + (1 + 1)) := by simp; omega
  rw [hln] at hlt ⊢
  have hll := codeL_len l (n + 1)
  have a := Flows.one (C := C) (o := o) (n := n) (e := e) hh.head .tick (Nat.zero_le _) (by omega) (by omega)
  have b := flows_l (C := C) (o := o) l hl (n + 1) e hh.tail.left (by omega) (by omega) hC
  have c := Flows.one (C := C) (o := o) (n := n + 1 + (codeL l (n + 1)).length) (e := e + l.length) hh.tail.right.head (.prim h1 h0) (by omega) (by omega) (by omega)
  rw [show e + l.length - l.length + 1 = e + 1 by omega] at c
  exact a.comp_t (b.comp_t (c.comp_t (.ret hh.tail.right.tail.head (by omega) (by omega)) (by decide)) (by omega)) (by omega)
 | .ite a b c, .ite _ _ _ ha hb hc, n, e, hh, he, hC => by
  obtain ⟨ca, nb, cb, nc, cc, hca, hnb, hcb, hnc, hcc, hlen, h1, h2, h3, h4, h5, h6⟩ := ite_parts hh
  have l1 := codeX_len a false (n + 1)
  have l2 := codeX_len b true nb
  have l3 := codeX_len c true nc
  rw [hca] at l1
  rw [hcb] at l2
  rw [hcc] at l3
  have hlt := hh.lt (by have := codeX_len (.ite a b c) true n; omega)
  rw [hlen] at hlt ⊢
  simp only [if_true, Nat.add_zero] at hlt hnc ⊢
  have A := (Flows.one (C := C) (o := o) (n := n) (e := e) h1 .tick (Nat.zero_le _) (by omega) (by omega)).comp (by have := flows_x a ha (n + 1) e (by rw [hca]; exact h2) (by rw [hca]; omega) (by omega) hC; rwa [hca] at this) (fun h => by omega)
  have B := tflows_x b hb nb e (by rw [hcb]; exact h4) (by omega) hC
  have D := tflows_x c hc nc e (by rw [hcc]; exact h5) (by omega) hC
  rw [hcb] at B
  rw [hcc] at D
  intro H hl h0 hz k
  refine A H hl h0 (fun i i1 i2 => hz i i1 (by omega)) (fun _ => Or.inl (hz _ (by omega) (by omega))) fun H1 hl1 hk1 he1 => ?_
  have hp : n + (1 + ca.length) = n + 1 + ca.length := by omega
  rw [hp] at he1 hk1 ⊢
  have hH1 : ∀ i, n + 1 + ca.length < i -> i < nc + cc.length -> H1[i]? = some 0 := fun i i1 i2 => (hk1 i i1).trans (hz i (by omega) (by omega))
  refine .else_ h3 he1 (by omega) (by omega) (by omega) (Or.inl (hH1 _ (by omega) (by omega))) (Or.inl (hH1 _ (by omega) (by omega))) ?_
  rw [hnb]
  refine B _ (by simp [hl1]) (by rw [List.getElem?_set_self (by simp; omega)]) (fun i i1 i2 => ?_) fun H3 hl3 hk3 => ?_
  ·
   rw [List.getElem?_set_ne (by omega), List.getElem?_set_ne (by omega)]; exact hH1 i (by omega) (by omega)
  rw [hnc]
  refine D H3 hl3 ?_ (fun i i1 i2 => ?_) fun H5 hl5 hk5 => ?_
  ·
   rw [hk3 nc (by omega), List.getElem?_set_ne (by omega), List.getElem?_set_self (by omega)]
  ·
   rw [hk3 i (by omega), List.getElem?_set_ne (by omega), List.getElem?_set_ne (by omega)]; exact hH1 i (by omega) (by omega)
  have := k H5 hl5 (fun i hi => by rw [hk5 i (by omega), hk3 i (by omega), List.getElem?_set_ne (by omega), List.getElem?_set_ne (by omega)]; exact hk1 i (by omega))
  rwa [show n + (1 + ca.length + 1 + cb.length + cc.length) = nc + cc.length by omega] at this
theorem chk_all (x : Px) (hx : PxW o x) (hC : (codeX x true 0).length <= 6000) : Chk (codeX x true 0) o 0 (1 :: List.replicate ((codeX x true 0).length - 1) 0) := by
 have h1 := codeX_len x true 0
 refine tflows_x (C := codeX x true 0) x hx 0 0 (fun i hi => by rw [Nat.zero_add]) (Nat.le_refl _) hC _ (by simp; omega) (by simp) (fun i i1 i2 => ?_) fun H' _ _ => ?_
 ·
  obtain ⟨j, rfl⟩ : ∃ j, i = j + 1 := ⟨i - 1, by omega⟩
  simp only [List.getElem?_cons_succ]
  rw [List.getElem?_replicate, if_pos (by omega)]
 rw [Nat.zero_add]; exact .done
end
/- What holds of the words of a run; what a value is shown as: no program in sight. -/
def WIn (h : Hp) (w : Wd) : Prop := WOk w \/ ∃ i, i < h.length /\ w = ⟨5, pAt i, ⟨#[]⟩⟩
theorem WIn.ext {h h' : Hp} {w : Wd} (x : WIn h w) (e : Ext h h') : WIn h' w := by
 rcases x with x | ⟨i, hi, rfl⟩
 ·
  exact Or.inl x
 exact Or.inr ⟨i, Nat.lt_of_lt_of_le hi e.len, rfl⟩
def HOk (h : Hp) : Prop := ∀ p ∈ h, WIn h p.1 /\ WIn h p.2
structure SOk (s : SE) : Prop where
 st : ∀ w ∈ s.st, WIn s.hp w
 hp : HOk s.hp
theorem wok_bool (b : Bool) : WOk (boolW b) := Or.inr (Or.inl ⟨rfl, by unfold boolW; cases b <;> simp, by unfold boolW; cases b <;> simp, rfl⟩)
theorem calc_ok {s : ByteArray} {a b : Int} {w : Wd} (h : calcW s a b = .ok w) : WOk w := by
 have fit : ∀ n : Int, ∀ v, (if n < -big \/ big < n then (.error 2 : Rs Vl) else .ok (.int n)) = .ok v -> ∃ m, v = .int m /\ -big <= m /\ m <= big := fun n v h => by
  split at h
  ·
   cases h
  cases h; exact ⟨n, rfl, by omega, by omega⟩
 have key : ∀ v, calcV s a b = .ok v -> (∃ m, v = .int m /\ -big <= m /\ m <= big) \/ ∃ c, v = bV c := by
  intro v hv
  unfold calcV at hv
  simp only at hv
  split at hv; · exact Or.inl (fit _ _ hv)
  split at hv; · exact Or.inl (fit _ _ hv)
  split at hv; · cases hv; exact Or.inr ⟨_, rfl⟩
  split at hv; · cases hv; exact Or.inr ⟨_, rfl⟩
  split at hv
  ·
   split at hv
   ·
    cases hv
   exact Or.inl (fit _ _ hv)
  split at hv; · cases hv
  split at hv; · exact Or.inl (fit _ _ hv)
  exact Or.inl (fit _ _ hv)
 unfold calcW at h
 cases hv : calcV s a b with
 | error e => rw [hv] at h; cases h
 | ok v =>
  rw [hv] at h
  rcases key v hv with ⟨m, rfl, h1, h2⟩ | ⟨c, rfl⟩
  ·
   cases h
   exact Or.inl ⟨rfl, h1, h2, rfl⟩
  cases h
  exact wok_bool c
theorem prim_in {h h' : Hp} {s : ByteArray} {l : List Wd} {w : Wd} (hh : HOk h) (hl : ∀ x ∈ l, WIn h x) (hp : primW h s l = .ok (w, h')) : Ext h h' /\ WIn h' w /\ HOk h' := by
 have pick : ∀ a : Wd, WIn h a -> isPW a = true -> ∃ i, ∃ hi : i < h.length, ixW a = i := fun a ha hq => by
  rcases ha with x | ⟨i, hi, rfl⟩
  ·
   have : a.k = 5 := by simpa [isPW] using hq
   rcases x with ⟨e, _⟩ | ⟨e, _⟩ | ⟨e, _⟩ | ⟨e, _⟩ <;> omega
  exact ⟨i, hi, pAt_ix i _⟩
 match l with
 | [] => cases hp
 | [a] =>
  have ha := hl a (by simp)
  unfold primW at hp
  simp only at hp
  split at hp
  ·
   split at hp
   ·
    rename_i hq
    obtain ⟨i, hi, e⟩ := pick a ha hq
    cases hp
    rw [e]
    refine ⟨Ext.refl _, ?_, hh⟩
    simp only [List.getD_eq_getElem?_getD, List.getElem?_eq_getElem hi, Option.getD_some]
    exact (hh _ (List.getElem_mem hi)).1
   cases hp
  split at hp
  ·
   split at hp
   ·
    rename_i hq
    obtain ⟨i, hi, e⟩ := pick a ha hq
    cases hp
    rw [e]
    refine ⟨Ext.refl _, ?_, hh⟩
    simp only [List.getD_eq_getElem?_getD, List.getElem?_eq_getElem hi, Option.getD_some]
    exact (hh _ (List.getElem_mem hi)).2
   cases hp
  split at hp; · cases hp; exact ⟨Ext.refl _, Or.inl (wok_bool _), hh⟩
  split at hp; · cases hp; exact ⟨Ext.refl _, Or.inl (wok_bool _), hh⟩
  split at hp; · cases hp; exact ⟨Ext.refl _, Or.inl (wok_bool _), hh⟩
  cases hp
 | [a, b] =>
  have ha := hl a (by simp)
  have hb := hl b (by simp)
  unfold primW at hp
  simp only at hp
  split at hp
  ·
   cases hp
   have hE : Ext h (h ++ [(a, b)]) := ⟨_, rfl⟩
   refine ⟨hE, Or.inr ⟨h.length, by simp, rfl⟩, ?_⟩
   intro p hp
   rcases List.mem_append.1 hp with hp | hp
   ·
    exact ⟨(hh p hp).1.ext hE, (hh p hp).2.ext hE⟩
   obtain rfl : p = (a, b) := by simpa using hp
   exact ⟨ha.ext hE, hb.ext hE⟩
  split at hp; · cases hp; exact ⟨Ext.refl _, Or.inl (wok_bool _), hh⟩
  split at hp
  ·
   cases hc : calcW s a.n b.n with
   | error e => rw [hc] at hp; cases hp
   | ok u =>
    rw [hc] at hp
    cases hp
    exact ⟨Ext.refl _, Or.inl (calc_ok hc), hh⟩
  cases hp
 | _ :: _ :: _ :: _ => cases hp
theorem step_ok {C : List IV} {L : List Wd} (hC : ∀ w, constI w ∈ C -> WOk w) (hL : ∀ w ∈ L, WOk w) {s : SE} (h : SOk s) : (∀ s', Step C L s (.inl s') -> SOk s' /\ Ext s.hp s'.hp) /\ ∀ w h', Step C L s (.inr (.ok (w, h'))) -> h' = s.hp /\ WIn h' w := by
 refine ⟨fun s' k => ?_, fun w h' k => ?_⟩
 ·
  cases k with
  | tick _ => exact ⟨⟨h.st, h.hp⟩, Ext.refl _⟩
  | const hc =>
   refine ⟨⟨fun w hw => ?_, h.hp⟩, Ext.refl _⟩
   rcases List.mem_append.1 hw with hw | hw
   ·
    exact h.st w hw
   obtain rfl : w = _ := by simpa using hw
   exact Or.inl (hC _ (List.mem_of_getElem? hc))
  | local_ hc hw' =>
   refine ⟨⟨fun w hw => ?_, h.hp⟩, Ext.refl _⟩
   rcases List.mem_append.1 hw with hw | hw
   ·
    exact h.st w hw
   obtain rfl : w = _ := by simpa using hw
   exact Or.inl (hL _ (List.mem_of_getElem? hw'))
  | jump _ _ => exact ⟨⟨h.st, h.hp⟩, Ext.refl _⟩
  | else_ _ _ => exact ⟨⟨fun w hw => h.st w (List.mem_append_left _ hw), h.hp⟩, Ext.refl _⟩
  | prim hc hl hn hr =>
   obtain ⟨e, hw, hh⟩ := prim_in h.hp (fun x hx => h.st x (List.mem_append_right _ hx)) hr
   refine ⟨⟨fun w hw' => ?_, hh⟩, e⟩
   rcases List.mem_append.1 hw' with h1 | h1
   ·
    exact (h.st w (List.mem_append_left _ h1)).ext e
   obtain rfl : w = _ := by simpa using h1
   exact hw
 cases k with
 | ret _ => exact ⟨rfl, h.st w (List.mem_append_right _ (by simp))⟩
mutual
theorem codeD_words : (d : Dt) -> DtW d -> ∀ w, constI w ∈ codeD d -> WOk w
 | .mk k m s l, .mk _ _ _ _ h1 h4 hw hl, w, h => by
  rw [codeD] at h
  split at h
  ·
   rcases List.mem_append.1 h with h | h
   ·
    exact codeDs_words l hl w h
   rcases List.mem_cons.1 h with h | h
   ·
    have : w = nilW := by unfold constI at h; cases h; rfl
    rw [this]
    exact Or.inr (Or.inr (Or.inl ⟨rfl, rfl, rfl⟩))
   have := (List.mem_replicate.1 h).2
   unfold constI primI at this
   cases this
  rename_i hk
  have : constI w = constI (atomW k m s) := by simpa using h
  have e : w = atomW k m s := by unfold constI at this; cases this; rfl
  rw [e]
  exact hw hk
theorem codeDs_words : (l : List Dt) -> (∀ x ∈ l, DtW x) -> ∀ w, constI w ∈ codeDs l -> WOk w
 | [], _, w, h => by simp [codeDs] at h
 | d :: l, hk, w, h => by
  rw [codeDs] at h
  rcases List.mem_append.1 h with h | h
  ·
   exact codeD_words d (hk d (by simp)) w h
  exact codeDs_words l (fun x hx => hk x (List.mem_cons_of_mem _ hx)) w h
end
theorem not_const {w : Wd} {i : IV} (k : Int) (h : constI w = i) (hk : i.op = k) (hi : k ≠ 2) : False := hi (by rw [<- hk, <- h]; rfl)
theorem tail_words {w : Wd} {t : Bool} (h : constI w ∈ tailI t) : False := by
 unfold tailI at h
 cases t with
 | true => exact not_const 14 (by simpa using h) rfl (by decide)
 | false => simp at h
mutual
theorem codeX_words {o : Nat} : (x : Px) -> PxW o x -> (t : Bool) -> (n : Nat) -> ∀ w, constI w ∈ codeX x t n -> WOk w
 | .const d, .const _ hd, t, n, w, h => by
  rw [codeX] at h
  rcases List.mem_cons.1 h with h | h
  ·
   exact (not_const 1 h rfl (by decide)).elim
  rcases List.mem_append.1 h with h | h
  ·
   exact codeD_words d hd w h
  exact (tail_words h).elim
 | .was i, .was _ hi, t, n, w, h => by
  rw [codeX] at h
  rcases List.mem_cons.1 h with h | h
  ·
   exact (not_const 1 h rfl (by decide)).elim
  rcases List.mem_cons.1 h with h | h
  ·
   exact (not_const 3 h rfl (by decide)).elim
  exact (tail_words h).elim
 | .prim s l, .prim _ _ h0 h1 hl, t, n, w, h => by
  rw [codeX] at h
  rcases List.mem_cons.1 h with h | h
  ·
   exact (not_const 1 h rfl (by decide)).elim
  rcases List.mem_append.1 h with h | h
  ·
   exact codeL_words l hl (n + 1) w h
  rcases List.mem_cons.1 h with h | h
  ·
   exact (not_const 18 h rfl (by decide)).elim
  exact (tail_words h).elim
 | .ite a b c, .ite _ _ _ ha hb hc, t, n, w, h => by
  rw [codeX] at h
  rcases List.mem_cons.1 h with h | h
  ·
   exact (not_const 1 h rfl (by decide)).elim
  rcases List.mem_append.1 h with h | h
  ·
   exact codeX_words a ha _ _ w h
  rcases List.mem_cons.1 h with h | h
  ·
   exact (not_const 16 h rfl (by decide)).elim
  rcases List.mem_append.1 h with h | h
  ·
   rcases List.mem_append.1 h with h | h
   ·
    exact codeX_words b hb _ _ w h
   cases t with
   | true => simp at h
   | false =>
    simp only [Bool.false_eq_true, if_false] at h
    exact (not_const 15 (by simpa using h) rfl (by decide)).elim
  exact codeX_words c hc _ _ w h
theorem codeL_words {o : Nat} : (l : List Px) -> (∀ x ∈ l, PxW o x) -> (n : Nat) -> ∀ w, constI w ∈ codeL l n -> WOk w
 | [], _, n, w, h => by simp [codeL] at h
 | x :: l, hk, n, w, h => by
  rw [codeL] at h
  rcases List.mem_append.1 h with h | h
  ·
   exact codeX_words x (hk x (by simp)) _ _ w h
  exact codeL_words l (fun y hy => hk y (List.mem_cons_of_mem _ hy)) _ w h
end
def bsOf (l : List UInt8) : ByteArray := ⟨l.toArray⟩
def shV (dec : Int -> ByteArray) : Vl -> Nat -> Option Nat -> ByteArray
 | .int n, _, _ => dec n
 | .bool n, _, _ => if n = 1 then ⟨#[35, 116]⟩ else ⟨#[35, 102]⟩
 | .nil, _, _ => ⟨#[40, 41]⟩
 | .sym s, _, _ => s
 | .pair a b, lev, m =>
  let items (i : Nat) (s : ByteArray) : ByteArray :=
   let s1 := if 0 < i then s ++ ⟨#[32]⟩ else s
   if i = 50 then s1 ++ ⟨#[46, 46, 41]⟩
   else
    let s2 := s1 ++ shV dec a (lev + 1) none
    match b with
    | .nil => s2 ++ ⟨#[41]⟩
    | .pair _ _ => s2 ++ shV dec b lev (some (i + 1))
    | _ => s2 ++ ⟨#[32, 46, 32]⟩ ++ shV dec b (lev + 1) none ++ ⟨#[41]⟩
  match m with
  | none => if 10 < lev then ⟨#[46, 46]⟩ else items 0 ⟨#[40]⟩
  | some i => items i ⟨#[]⟩
/- How long the code of an upgrade's expression is at most: no program in sight. -/
mutual
def countD : Dt -> Nat
 | .mk _ _ _ l => 1 + countDs l
def countDs : List Dt -> Nat
 | [] => 0
 | d :: r => countD d + countDs r
end
mutual
def countX : Px -> Nat
 | .const d => countD d
 | .was _ => 1
 | .ite a b c => 1 + (countX a + (countX b + countX c))
 | .prim _ l => 1 + countXs l
def countXs : List Px -> Nat
 | [] => 0
 | x :: r => countX x + countXs r
end
mutual
theorem codeD_le : (d : Dt) -> (codeD d).length + 1 <= 3 * countD d
 | .mk k m s l => by
  rw [codeD, countD]
  have h := codeDs_le l
  split
  ·
   simp
   omega
  simp
  omega
theorem codeDs_le : (l : List Dt) -> (codeDs l).length + l.length <= 3 * countDs l
 | [] => by simp [codeDs, countDs]
 | d :: l => by
  have h1 := codeD_le d
  have h2 := codeDs_le l
  have h3 : 1 <= countD d := by cases d; rw [countD]; omega
  rw [codeDs, countDs]
  simp
  omega
end
mutual
theorem codeX_le : (x : Px) -> (t : Bool) -> (n : Nat) -> (codeX x t n).length <= 6 * countX x
 | .const d, t, n => by
  have h := codeD_le d
  have h3 : 1 <= countD d := by cases d; rw [countD]; omega
  rw [codeX, countX]
  cases t <;> simp [tailI] <;> omega
 | .was i, t, n => by
  rw [codeX, countX]
  cases t <;> simp [tailI]
 | .prim s l, t, n => by
  have h := codeL_le l (n + 1)
  rw [codeX, countX]
  cases t <;> simp [tailI] <;> omega
 | .ite a b c, t, n => by
  rw [codeX, countX]
  have h1 := codeX_le a false (n + 1)
  have h2 := codeX_le b t (n + 1 + (codeX a false (n + 1)).length + 1)
  have h3 := codeX_le c t (n + 1 + (codeX a false (n + 1)).length + 1 + (codeX b t (n + 1 + (codeX a false (n + 1)).length + 1)).length + if t = true then 0 else 1)
  cases t <;> simp at * <;> omega
theorem codeL_le : (l : List Px) -> (n : Nat) -> (codeL l n).length <= 6 * countXs l
 | [], n => by simp [codeL]
 | x :: l, n => by
  have h1 := codeX_le x false n
  have h2 := codeL_le l (n + (codeX x false n).length)
  rw [codeL, countXs]
  simp
  omega
end
end Go.Proofs.YtfhbdlobhjegcaaGreatDoor
