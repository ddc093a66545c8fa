import Derived.Test.YtfhbdlobhjegcaaGreatDoorSd
namespace Go.Proofs.YtfhbdlobhjegcaaGreatDoor
open Go.RowKit Go.ChangeShapes Go.WideShapes Go.Deep Go.ChangeAt
set_option linter.unusedVariables false
set_option maxRecDepth 20000
def VaPost (R lo : Nat) (w : World) (r : Rs Vl) (e : Ending) (w' : World) : Prop := ∃ k n s p er, e = .returned (.tuple #[.agg #[.int .i64 k, .int .i64 n, .string s, .pointer p], .int .i64 er]) /\ Rnr R w w' /\ ((∃ v, r = .ok v /\ er = 0 /\ VlIn w' lo w'.heap.size ⟨k, n, s, p⟩ v) \/ (r = .error er /\ er ≠ 0))
def MnPost (R lo : Nat) (w : World) (r : Rs Vl) (e : Ending) (w' : World) : Prop := ∃ k n s p er, e = .returned (.tuple #[.agg #[.int .i64 k, .int .i64 n, .string s, .pointer p], .pointer none, .int .i64 er]) /\ Rnr R w w' /\ ((∃ v, r = .ok v /\ er = 0 /\ VlIn w' lo w'.heap.size ⟨k, n, s, p⟩ v) \/ (r = .error er /\ er ≠ 0))
structure RE (W0 w : World) (R : Nat) (A : Option Addr) (cap : Nat) (ol : List Int) : Prop where
 at_ : RAt w R A cap ol
 old : Below W0.heap.size W0 w
 le : W0.heap.size <= R
 ok : ∀ n ∈ ol, -big <= n /\ n <= big
theorem RE.rn {W0 w w' : World} {R : Nat} {A : Option Addr} {cap : Nat} {ol : List Int} (h : RE W0 w R A cap ol) (hr : Rnr R w w') : RE W0 w' R A cap ol := ⟨h.at_.rn hr, h.old.trans (hr.below h.old.size h.le), h.le, h.ok⟩
theorem RE.new {W0 w w' : World} {R : Nat} {A : Option Addr} {cap : Nat} {ol : List Int} (h : RE W0 w R A cap ol) (hb : Below w.heap.size w w') : RE W0 w' R A cap ol := h.rn (Rnr.new hb h.at_.lt)
theorem Rnr.gr {R : Nat} {w w' : World} (h : Rnr R w w') : w.grownBy w' (some R) := ⟨h.os, h.tape, h.output, h.size, fun k hk hne => h.block k hk (fun e => hne (by rw [e]))⟩
theorem Rnr.row {R : Nat} {w w1 w2 : World} {row : Option Nat} (h : Rnr R w w1) (hR : R < w.heap.size) (hg : w1.grownBy w2 row) (hb : ∀ b, row = some b -> w.heap.size <= b) : Rnr R w w2 := by
 cases row with
 | none => exact h.trans (Rnr.grown hg (Nat.lt_of_lt_of_le hR h.size) (by simp) (fun b e => by cases e))
 | some b => exact h.set2 hR (hb b rfl) hg
def MeantSays (ol : List Int) (x : Px) : Prop := ∀ (W0 w : World) (R : Nat) (A : Option Addr) (cap : Nat) (cs : List Value) (q : Nat) (t : Bool), PxIn W0 cs x q -> PxW ol.length x -> RE W0 w R A cap ol →
  Calls Tryz.prog 54 #[.pointer (some ⟨R, 0, none⟩), .agg cs.toArray, .slice none 0 0, .bool t] w (MnPost R w.heap.size w (evalX ol x))
def ValueSays (ol : List Int) (x : Px) : Prop := ∀ (W0 w : World) (R : Nat) (A : Option Addr) (cap : Nat) (cs : List Value) (q : Nat), PxIn W0 cs x q -> PxW ol.length x -> RE W0 w R A cap ol →
  Calls Tryz.prog 26 #[.pointer (some ⟨R, 0, none⟩), .agg cs.toArray, .slice none 0 0] w (VaPost R w.heap.size w (evalX ol x))
theorem box2 {w wb : World} {cs : Array Value} (hwb : (w.alloc (.cells cs 28)).alloc (.cells #[.int .i64 0, .int .i64 0, .string ⟨#[]⟩, .pointer none] 98) = wb) :
  Below w.heap.size w wb /\ wb.heap.size = w.heap.size + 2 /\ (∀ j, wb.cell? ⟨w.heap.size, j, none⟩ = cs[j]?) /\ (wb.cell? ⟨w.heap.size + 1, 0, none⟩ = some (.int .i64 0) /\ wb.cell? ⟨w.heap.size + 1, 1, none⟩ = some (.int .i64 0) /\ wb.cell? ⟨w.heap.size + 1, 2, none⟩ = some (.string ⟨#[]⟩) /\ wb.cell? ⟨w.heap.size + 1, 3, none⟩ = some (.pointer none)) /\ ∀ j, wb.frozen? ⟨w.heap.size + 1, j, none⟩ = false := by
 subst hwb
 refine ⟨((Below.refl _ _).alloc (Nat.le_refl _) _).alloc (by simp) _, by simp, fun j => cell_first _ _ _ _ _ j, ⟨cell_second _ _ _ _ _ 0, cell_second _ _ _ _ _ 1, cell_second _ _ _ _ _ 2, cell_second _ _ _ _ _ 3⟩, fun j => ?_⟩
 rw [show w.heap.size + 1 = (w.alloc (.cells cs 28)).heap.size by simp]
 exact ze _ _ _ _
theorem set_end {w w5 w6 : World} {R O : Nat} {a0 a1 a2 a3 b0 b1 b2 b3 : Value} (hR : R < w.heap.size) (hO : w.heap.size <= O) (h5 : Rnr R w w5) (h6 : (((w5.setCell ⟨O, 0, none⟩ a0).setCell ⟨O, 1, none⟩ a1).setCell ⟨O, 2, none⟩ a2).setCell ⟨O, 3, none⟩ a3 = w6) (h0 : w5.cell? ⟨O, 0, none⟩ = some b0) (h1 : w5.cell? ⟨O, 1, none⟩ = some b1) (h2 : w5.cell? ⟨O, 2, none⟩ = some b2) (h3 : w5.cell? ⟨O, 3, none⟩ = some b3) :
  (w6.cell? ⟨O, 0, none⟩ = some a0 /\ w6.cell? ⟨O, 1, none⟩ = some a1 /\ w6.cell? ⟨O, 2, none⟩ = some a2 /\ w6.cell? ⟨O, 3, none⟩ = some a3) /\ Rnr R w w6 /\ w5.grownBy w6 (some O) := by
 obtain ⟨hc, hg⟩ := set4_any h6 h0 h1 h2 h3
 exact ⟨hc, h5.set2 hR hO hg, hg⟩
theorem VlIn.past {w w' : World} {lo lo' O : Nat} {x : MV} {v : Vl} (h : VlIn w lo w.heap.size x v) (hg : w.grownBy w' (some O)) (hO : O < lo) (hl : lo' <= lo) : VlIn w' lo' w'.heap.size x v := h.keep (fun b h1 h2 h3 => hg.block b h3 (fun e => by have := Option.some.inj e; omega)) hg.size hl hg.size
set_option maxHeartbeats 4000000 in
theorem value_any {ol : List Int} {x : Px} (hm : MeantSays ol x) : ValueSays ol x := fun W0 w R AR capR cs q hin hw hre => by
 obtain ⟨k, dk, dn, ds, dA, dl, dc, s, n, nA, nl, nc, aA, al, ac, rfl⟩ := hin.form
 obtain ⟨wb, hwb⟩ : ∃ wb, (w.alloc (.cells #[.int .i64 k, .int .i64 dk, .int .i64 dn, .string ds, .slice dA dl dc, .string s, .int .i64 n, .slice nA nl nc, .slice aA al ac] 28)).alloc (.cells #[.int .i64 0, .int .i64 0, .string ⟨#[]⟩, .pointer none] 98) = wb := ⟨_, rfl⟩
 obtain ⟨hb, hsz, ha, ⟨u0, u1, u2, u3⟩, uf⟩ := box2 hwb
 have a0 := ha 0
 have a1 := ha 1
 have a2 := ha 2
 have a3 := ha 3
 have a4 := ha 4
 have a5 := ha 5
 have a6 := ha 6
 have a7 := ha 7
 have a8 := ha 8
 simp only [List.getElem?_toArray, List.getElem?_cons_zero, List.getElem?_cons_succ] at a0 a1 a2 a3 a4 a5 a6 a7 a8
 have KM := Lib.hid (hm W0 wb R AR capR _ q false hin hw (hre.new hb))
 have hRl := hre.at_.lt
 have HRL := Lib.hid hRl
 have hl1 : w.heap.size + 1 < wb.heap.size := by omega
 have HB := Lib.hid hb
 have HWB := Lib.hid hwb
 have HSZ := Lib.hid hsz
 have hRO : R < w.heap.size + 1 := by omega
 have KU := Lib.hid (show ∀ W, Rnr R wb W -> (W.cell? ⟨w.heap.size + 1, 0, none⟩ = some (.int .i64 0) /\ W.cell? ⟨w.heap.size + 1, 1, none⟩ = some (.int .i64 0) /\ W.cell? ⟨w.heap.size + 1, 2, none⟩ = some (.string ⟨#[]⟩) /\ W.cell? ⟨w.heap.size + 1, 3, none⟩ = some (.pointer none)) /\ (W.frozen? ⟨w.heap.size + 1, 0, none⟩ = false /\ W.frozen? ⟨w.heap.size + 1, 1, none⟩ = false /\ W.frozen? ⟨w.heap.size + 1, 2, none⟩ = false /\ W.frozen? ⟨w.heap.size + 1, 3, none⟩ = false) from fun W hW =>
  ⟨⟨(hW.at_ 0 hl1 hRO).trans u0, (hW.at_ 1 hl1 hRO).trans u1, (hW.at_ 2 hl1 hRO).trans u2, (hW.at_ 3 hl1 hRO).trans u3⟩, (hW.fzn 0 hl1 hRO).trans (uf 0), (hW.fzn 1 hl1 hRO).trans (uf 1), (hW.fzn 2 hl1 hRO).trans (uf 2), (hW.fzn 3 hl1 hRO).trans (uf 3)⟩)
 clear hin hw hre hwb hsz ha u0 u1 u2 u3 uf hb hRl
 go_enter Tryz.func26, Tryz.ntmps26
 go_upto_region 1 with fail
 rw [HWB.out]
 go_wp2_with fail
 refine KM.out.mono ?_
 rintro e w1 ⟨k1, n1, s1, p1, er, rfl, hr1, hd⟩
 obtain ⟨⟨u0, u1, u2, u3⟩, f0, f1, f2, f3⟩ := KU.out w1 hr1
 have hl2 : w.heap.size + 1 < w1.heap.size := Nat.lt_of_lt_of_le hl1 hr1.size
 have HR1 := Lib.hid hr1
 have HD := Lib.hid hd
 clear hr1 hd a0 a1 a2 a3 a4 a5 a6 a7 a8
 go_wp2_with fail
 obtain ⟨w5, hw5⟩ : ∃ w5, (((w1.setCell ⟨w.heap.size + 1, 0, none⟩ (.int .i64 k1)).setCell ⟨w.heap.size + 1, 1, none⟩ (.int .i64 n1)).setCell ⟨w.heap.size + 1, 2, none⟩ (.string s1)).setCell ⟨w.heap.size + 1, 3, none⟩ (.pointer p1) = w5 := ⟨_, rfl⟩
 obtain ⟨⟨s0, s1', s2, s3⟩, hr5, hg5⟩ := set_end (O := w.heap.size + 1) HRL.out (Nat.le_succ _) ((Rnr.new HB.out HRL.out).trans HR1.out) hw5 u0 u1 u2 u3
 have b6 : Below w5.heap.size w5 (w5.alloc (.cells #[.int .i64 k1, .int .i64 n1, .string s1, .pointer p1] 98)) := (Below.refl _ _).alloc (Nat.le_refl _) _
 have hl5 : w.heap.size + 1 < w5.heap.size := Nat.lt_of_lt_of_le hl2 hg5.size
 rw [hw5]
 have z0 := (b6.cell (p := ⟨w.heap.size + 1, 0, none⟩) hl5).trans s0
 have z1 := (b6.cell (p := ⟨w.heap.size + 1, 1, none⟩) hl5).trans s1'
 have z2 := (b6.cell (p := ⟨w.heap.size + 1, 2, none⟩) hl5).trans s2
 have z3 := (b6.cell (p := ⟨w.heap.size + 1, 3, none⟩) hl5).trans s3
 refine bodyPost_ret (v := .tuple #[.agg #[.int .i64 k1, .int .i64 n1, .string s1, .pointer p1], .int .i64 er]) (by simp [results, Tryz.results26, go_sem, z0, z1, z2, z3]) rfl ?_
 refine ⟨_, _, _, _, er, rfl, hr5.trans (Rnr.new b6 (Nat.lt_of_lt_of_le HRL.out hr5.size)), ?_⟩
 have hsz := HSZ.out
 rcases HD.out with ⟨v, hv, he, hx⟩ | h
 ·
  exact Or.inl ⟨v, hv, he, (hx.past (lo' := w.heap.size) hg5 (by omega) (by omega)).new b6 b6.size⟩
 exact Or.inr h
def Srt : Nat -> Nat -> List ME -> Prop
 | lo, hi, [] => lo <= hi
 | lo, hi, e :: r => lo <= e.lo /\ e.lo <= e.hi /\ Srt e.hi hi r
theorem Srt.le : {lo hi : Nat} -> {X : List ME} -> Srt lo hi X -> lo <= hi
 | _, _, [], h => h
 | _, _, e :: r, ⟨h1, h2, h3⟩ => Nat.le_trans h1 (Nat.le_trans h2 (Srt.le h3))
theorem Srt.snoc : {lo hi hi' : Nat} -> {X : List ME} -> Srt lo hi X -> (e : ME) -> hi <= e.lo -> e.lo <= e.hi -> e.hi <= hi' -> Srt lo hi' (X ++ [e])
 | _, _, _, [], h, e, h1, h2, h3 => ⟨Nat.le_trans h h1, h2, h3⟩
 | _, _, _, a :: r, ⟨g1, g2, g3⟩, e, h1, h2, h3 => ⟨g1, g2, Srt.snoc g3 e h1 h2 h3⟩
theorem Srt.up : {lo hi hi' : Nat} -> {X : List ME} -> Srt lo hi X -> hi <= hi' -> Srt lo hi' X
 | _, _, _, [], h, h' => Nat.le_trans h h'
 | _, _, _, e :: r, ⟨h1, h2, h3⟩, h' => ⟨h1, h2, Srt.up h3 h'⟩
theorem evalL_snoc {ol : List Int} : (l : List Px) -> (j : Nat) -> (hj : j < l.length) -> (vs : List Vl) -> evalL ol (l.take j) = .ok vs -> evalL ol (l.take (j + 1)) = (match evalX ol l[j] with | .ok v => .ok (vs ++ [v]) | .error e => .error e)
 | x :: l, 0, hj, vs, h => by
  simp only [List.take_zero, evalL] at h
  cases h
  simp only [List.take_succ_cons, List.take_zero, evalL, List.getElem_cons_zero]
  cases evalX ol x <;> rfl
 | x :: l, j + 1, hj, vs, h => by
  have hj' : j < l.length := by simpa using hj
  rw [List.take_succ_cons, evalL] at h
  rw [List.take_succ_cons, evalL]
  cases hx : evalX ol x with
  | error e => rw [hx] at h; cases h
  | ok v =>
   rw [hx] at h
   simp only at h
   cases hl : evalL ol (l.take j) with
   | error e => rw [hl] at h; cases h
   | ok us =>
    rw [hl] at h
    cases h
    have := evalL_snoc l j hj' us hl
    simp only [List.getElem_cons_succ]
    rw [this]
    cases evalX ol l[j] <;> rfl
theorem evalL_bad {ol : List Int} : (l : List Px) -> (j : Nat) -> (e : Int) -> evalL ol (l.take j) = .error e -> evalL ol l = .error e
 | [], j, e, h => by simpa [List.take_nil] using h
 | x :: l, 0, e, h => by simp [evalL] at h
 | x :: l, j + 1, e, h => by
  rw [List.take_succ_cons, evalL] at h
  rw [evalL]
  cases hx : evalX ol x with
  | error e' => rw [hx] at h; exact h
  | ok v =>
   rw [hx] at h
   simp only at h ⊢
   cases hl : evalL ol (l.take j) with
   | error e' =>
    rw [hl] at h
    rw [evalL_bad l j e' hl]
    exact h
   | ok us => rw [hl] at h; cases h
def VsPost (R : Nat) (w : World) (r : Rs (List Vl)) (e : Ending) (w' : World) : Prop := Rnr R w w' /\ ((∃ X v vs, r = .ok vs /\ e = .returned (.tuple #[v, .int .i64 0]) /\ OwnAt kitME 98 w.heap.size w' v X /\ X.map ME.v = vs /\ Srt w.heap.size w'.heap.size X) \/ ∃ er, r = .error er /\ er ≠ 0 /\ e = .returned (.tuple #[.slice none 0 0, .int .i64 er]))
theorem infoVal : (Tryz.prog.info? 98).map (fun i => (i.zero, i.size, i.bytes)) = some (some (.agg #[.int .i64 0, .int .i64 0, .string ByteArray.empty, .pointer none]), 4, 40) := by kernel_rfl
theorem wpList_me {base : Nat} {ops : Array Oper} {rest : List Oper} {o : Oper} {act : Act} {Q : Exit -> Act -> World -> Prop} {w : World} (hgd : o.guard = none) (s y : Operand)
  (ho : o.op = .call { callee := .builtin .append, args := #[s, y], argTypes := #[90, 90] })
  {v : Value} {X : List ME} (hO : OwnAt kitME 98 base w v X) (x : ME) (cs : Array Value) (hcs : cs.toList = x.x.cells) (hx : VlIn w x.lo x.hi x.x x.v /\ x.hi <= w.heap.size) (hlo : base <= x.lo) (hap : ∀ b, v.ownBlock = some b -> b < x.lo)
  (hs : act.eval s = v) (hy : act.eval y = .slice (some ⟨w.heap.size, 0, none⟩) 1 1) (hb : X.length + 1 <= 1099511627777) (hbase : base <= w.heap.size)
  (h : ∀ v' w', OwnAt kitME 98 base w' v' (X ++ [x]) -> w.grownBy w' v.ownBlock -> (v'.ownBlock = v.ownBlock \/ ∃ b, v'.ownBlock = some b /\ w.heap.size <= b) -> wpList Tryz.prog ops Q rest (act.put o.dst v') w') : wpList Tryz.prog ops Q (o :: rest) act (w.alloc (.cells cs 98)) := by
 obtain ⟨i0, hi, hz0, hz1, hz2⟩ := info_parts infoVal
 exact wpList_own hgd s y ho Tryz.underlying90 hi hz0 hz1 hz2 rfl (by decide) hO x cs hcs hx (fun b hb => Nat.le_trans hlo hb.1) (fun b hb e => by have := hap b e; have := hb.1; omega) hs hy (by unfold maxLen; omega) hbase h
set_option maxHeartbeats 8000000 in
theorem values_any {ol : List Int} (l : List Px) (hv : ∀ y ∈ l, ValueSays ol y) (hl2 : l.length <= 1000) {W0 w : World} {R : Nat} {AR : Option Addr} {capR : Nat} {aA : Option Addr} {ac : Nat} (h1 : l.length <= ac) (h2 : ac <= maxLen) (cs : List (List Value)) (ks : List Nat) (hc : cs.length = l.length) (hk : ks.length = l.length) (row : Row9 W0 aA cs) (each : ∀ i, (i1 : i < l.length) -> (i2 : i < cs.length) -> (i3 : i < ks.length) -> PxIn W0 cs[i] l[i] ks[i]) (hlw : ∀ x ∈ l, PxW ol.length x) (hre : RE W0 w R AR capR ol) :
  Calls Tryz.prog 86 #[.pointer (some ⟨R, 0, none⟩), .slice aA l.length ac, .slice none 0 0] w (VsPost R w (evalL ol l)) := by
 have hac : ac <= 9223372036854775807 := by unfold maxLen at h2; omega
 obtain ⟨N, hN⟩ : ∃ N, l.length = N := ⟨_, rfl⟩
 rw [hN] at h1 hl2 ⊢
 have HNN := Lib.hid hN
 have HC := Lib.hid hc
 have HK := Lib.hid hk
 have HROW := Lib.hid row
 have HEACH := Lib.hid each
 have HLW := Lib.hid hlw
 have HV := Lib.hid hv
 have HRE := Lib.hid hre
 clear row each hlw hv hre hc hk hN
 go_enter Tryz.func86, Tryz.ntmps86
 go_wp2_with fail
 go_loopg [8, 9, 10, 11] N (fun g v i p e wr => ∃ (j : Nat) (X : List ME), g = N - j /\ j <= N /\ i = .int .i64 j /\ X.length = j /\ evalL ol (l.take j) = .ok (X.map ME.v) /\ OwnAt kitME 98 w.heap.size wr v X /\ Srt w.heap.size wr.heap.size X /\ Rnr R w wr)
 case atStart => exact ⟨0, [], by omega, by omega, rfl, rfl, by simp [evalL], OwnAt.start _ _ _ _, Nat.le_refl _, Rnr.refl _ _⟩
 obtain ⟨j, X, hg, hj, rfl, hXl, hev, hown, hsrt, hrr⟩ := hrel
 have HG := Lib.hid hg
 have HX := Lib.hid hXl
 have HEV := Lib.hid hev
 obtain ⟨A9, c9, rfl, _⟩ := hown.form
 rw [hXl] at hown ⊢
 have HO := Lib.hid hown
 have HSR := Lib.hid hsrt
 have HRR := Lib.hid hrr
 have hwr := hrr.size
 clear hg hXl hev hown hsrt hrr
 have hjN : (j : Int) < (N : Int) \/ j = N := by omega
 rcases hjN with hjN | rfl
 ·
  have hjl : j < l.length := by have := HNN.out; omega
  have hjc : j < cs.length := by have := HC.out; omega
  have hjk : j < ks.length := by have := HK.out; omega
  obtain ⟨b, o2, hAb, hbw, hrow⟩ := HROW.out (by omega)
  subst hAb
  have hr := hrow j hjc
  have he := HEACH.out j hjl hjc hjk
  have hyw := HLW.out _ (List.getElem_mem hjl)
  have hys := HV.out _ (List.getElem_mem hjl)
  have hsn := evalL_snoc l j hjl _ HEV.out
  have hbad := evalL_bad (ol := ol) l (j + 1)
  generalize l[j] = y at he hyw hys hsn
  generalize cs[j] = cj at hr he
  generalize ks[j] = kj at he
  obtain ⟨ek, edk, edn, eds, edA, edl, edc, es, en, enA, enl, enc, eaA, eal, eac, rfl⟩ := he.form
  have HSN := Lib.hid hsn
  have HBAD := Lib.hid hbad
  have hre := HRE.out.rn HRR.out
  have KD := Lib.hid (hys W0 wr R AR capR _ kj he hyw hre)
  have x0 := (hre.old.cell (p := ⟨b, o2 + j * 9 + 0, none⟩) hbw).trans (hr 0 (by simp))
  have x1 := (hre.old.cell (p := ⟨b, o2 + j * 9 + 1, none⟩) hbw).trans (hr 1 (by simp))
  have x2 := (hre.old.cell (p := ⟨b, o2 + j * 9 + 2, none⟩) hbw).trans (hr 2 (by simp))
  have x3 := (hre.old.cell (p := ⟨b, o2 + j * 9 + 3, none⟩) hbw).trans (hr 3 (by simp))
  have x4 := (hre.old.cell (p := ⟨b, o2 + j * 9 + 4, none⟩) hbw).trans (hr 4 (by simp))
  have x5 := (hre.old.cell (p := ⟨b, o2 + j * 9 + 5, none⟩) hbw).trans (hr 5 (by simp))
  have x6 := (hre.old.cell (p := ⟨b, o2 + j * 9 + 6, none⟩) hbw).trans (hr 6 (by simp))
  have x7 := (hre.old.cell (p := ⟨b, o2 + j * 9 + 7, none⟩) hbw).trans (hr 7 (by simp))
  have x8 := (hre.old.cell (p := ⟨b, o2 + j * 9 + 8, none⟩) hbw).trans (hr 8 (by simp))
  simp only [List.getElem?_cons_zero, List.getElem?_cons_succ, Nat.add_zero] at x0 x1 x2 x3 x4 x5 x6 x7 x8
  have hj0 : (0 : Int) <= (j : Int) := Int.natCast_nonneg _
  have hjc2 : (j : Int) < (ac : Int) := by omega
  have hRl := hre.at_.lt
  have HRL := Lib.hid HRE.out.at_.lt
  clear hr hyw hys he hrow hsn hbad hre
  go_wp2_with fail
  refine KD.out.mono ?_
  rintro e w1 ⟨k1, n1, s1, p1, er, rfl, hr1, hd⟩
  have HR1 := Lib.hid hr1
  have hs1 := hr1.size
  rcases hd with ⟨v, hyv, rfl, hx⟩ | ⟨hyv, hne⟩
  ·
   have HYV := Lib.hid hyv
   have HXV := Lib.hid hx
   clear hyv hx hr1 x0 x1 x2 x3 x4 x5 x6 x7 x8
   go_upto_region 8 with fail
   obtain ⟨w2, hw2⟩ : ∃ w2, w1.alloc (.cells #[.int .i64 k1, .int .i64 n1, .string s1, .pointer p1] 98) = w2 := ⟨_, rfl⟩
   have b2 : Below w1.heap.size w1 w2 := by rw [<- hw2]; exact (Below.refl _ _).alloc (Nat.le_refl _) _
   have z0 : w2.cell? ⟨w1.heap.size, 0, none⟩ = some (.int .i64 k1) := by rw [<- hw2]; exact za _ _ _ 0
   have z1 : w2.cell? ⟨w1.heap.size, 1, none⟩ = some (.int .i64 n1) := by rw [<- hw2]; exact za _ _ _ 1
   have z2 : w2.cell? ⟨w1.heap.size, 2, none⟩ = some (.string s1) := by rw [<- hw2]; exact za _ _ _ 2
   have z3 : w2.cell? ⟨w1.heap.size, 3, none⟩ = some (.pointer p1) := by rw [<- hw2]; exact za _ _ _ 3
   rw [hw2]
   have hs2 := b2.size
   have HO2 := Lib.hid ((HO.out.other HR1.out.gr HRL.out).new b2)
   have HEL := Lib.hid (show VlIn w2 wr.heap.size w1.heap.size ⟨k1, n1, s1, p1⟩ v /\ w1.heap.size <= w2.heap.size from ⟨HXV.out.new b2 (Nat.le_refl _), hs2⟩)
   have HAP := Lib.hid (show ∀ b, (Value.slice A9 j c9).ownBlock = some b -> b < wr.heap.size from fun b e => (HO.out.row.lt b e).2)
   have HBS := Lib.hid (show ∀ b, (Value.slice A9 j c9).ownBlock = some b -> w.heap.size <= b from fun b e => (HO.out.row.lt b e).1)
   have HR2 := Lib.hid (HRR.out.trans (HR1.out.trans (Rnr.new b2 (by omega))))
   have HLX := Lib.hid (show X.length + 1 <= 1099511627777 by have := HX.out; omega)
   have hbs2 : w.heap.size <= w2.heap.size := by omega
   clear hw2 b2
   go_wp2_with (at_builtin; refine wpList_me rfl (.tmp 31) (.tmp 33) rfl HO2.out ⟨⟨k1, n1, s1, p1⟩, v, wr.heap.size, w1.heap.size⟩ _ rfl HEL.out hwr HAP.out rfl rfl HLX.out hbs2 ?_; intro v7 w7 h7 hg7 _)
   have HS7 := Lib.hid hg7.size
   have HR7 := Lib.hid (HR2.out.row HRL.out hg7 HBS.out)
   have H7 := Lib.hid h7
   clear h7 hg7
   go_roundg (N - (j + 1))
   case rel => exact ⟨j + 1, X ++ [⟨⟨k1, n1, s1, p1⟩, v, wr.heap.size, w1.heap.size⟩], rfl, by omega, by go_num, by simp [HX.out], by rw [HSN.out, HYV.out]; simp, H7.out, HSR.out.snoc _ (Nat.le_refl _) hs1 (by have := HS7.out; show w1.heap.size <= _; omega), HR7.out⟩
   case measure => have := HG.out; omega
  have HYV := Lib.hid hyv
  have hnb : (er == 0) = false := by simpa using hne
  have HNE := Lib.hid hne
  clear hyv hr1 hne x0 x1 x2 x3 x4 x5 x6 x7 x8
  go_wp2_with fail
  refine bodyPost_ret (v := .tuple #[.slice none 0 0, .int .i64 er]) (by simp [results, Tryz.results86, go_sem]) rfl ?_
  exact ⟨HRR.out.trans (HR1.out.trans (Rnr.new ((Below.refl _ _).alloc (Nat.le_refl _) _) (by omega))), Or.inr ⟨er, HBAD.out er (by rw [HSN.out, HYV.out]), HNE.out, rfl⟩⟩
 go_wp2_with fail
 refine bodyPost_ret (v := .tuple #[.slice A9 j c9, .int .i64 0]) (by simp [results, Tryz.results86, go_sem]) rfl ?_
 have hev := HEV.out
 rw [List.take_of_length_le (by rw [HNN.out]; exact Nat.le_refl _)] at hev
 exact ⟨HRR.out, Or.inl ⟨X, _, _, hev, rfl, HO.out, rfl, HSR.out⟩⟩
/- The reference's model: contracts of plain, meant (printed by gen_sf.py). -/
theorem PvPost.va {R lo : Nat} {w w' : World} {r : Rs Vl} {e : Ending} (h : PvPost R w lo r e w') (hne : ∀ er, r = .error er -> er ≠ 0) : VaPost R lo w r e w' := by
 obtain ⟨hr, h⟩ := h
 cases r with
 | ok v =>
  obtain ⟨k, n, s, p, rfl, hv⟩ := h
  exact ⟨k, n, s, p, 0, rfl, hr, Or.inl ⟨v, rfl, rfl, hv⟩⟩
 | error er =>
  obtain ⟨k, n, s, p, rfl⟩ := h
  exact ⟨k, n, s, p, er, rfl, hr, Or.inr ⟨rfl, hne er rfl⟩⟩
theorem prim_call {wc : World} {R base : Nat} {v : Value} {X : List ME} {op : ByteArray} (hO : OwnAt kitME 98 base wc v X) (hs : Srt base wc.heap.size X) (hok : ∀ u ∈ X.map ME.v, VlOk u) (ha : arP op = X.length) (h1 : 1 <= X.length) (hR : R < base) (hrl : R < wc.heap.size) (hc4 : ∃ n : Int, wc.cell? ⟨R, 4, none⟩ = some (.int .i64 n)) (hf : wc.frozen? ⟨R, 4, none⟩ = false) :
  Calls Tryz.prog 104 #[.pointer (some ⟨R, 0, none⟩), .string op, v] wc (VaPost R base wc (primV op (X.map ME.v))) := by
 suffices hh : Calls Tryz.prog 104 #[.pointer (some ⟨R, 0, none⟩), .string op, v] wc (PvPost R wc base (primV op (X.map ME.v))) from hh.mono (fun e w' (h : PvPost R wc base (primV op (X.map ME.v)) e w') => h.va (fun er he => by have := primV_err he; omega))
 obtain ⟨A, cap, rfl, h2, h3, hr, hA⟩ := hO.form
 obtain ⟨b, o, rfl, hbl, hrow⟩ := hr.at_ (by omega)
 have hb : base <= b := hA _ rfl
 match X, ha, h1 with
 | [e], ha, _ =>
  obtain ⟨g1, g2, g3⟩ := hs
  obtain ⟨k1, k2⟩ := hO.each e (by simp)
  have r0 := (hrow 0 (by simp)).2
  simp only [Nat.zero_mul, Nat.add_zero] at r0
  obtain ⟨⟨k, n, s, p⟩, u, lo, hi⟩ := e
  exact primVal1_any ha ⟨hrl, hc4, hf, hR, hbl, r0, h2, h3, k1.keep (fun _ _ _ _ => rfl) (Nat.le_refl _) g1 k2⟩
 | [e, e'], ha, _ =>
  obtain ⟨g1, g2, g3, g4, g5⟩ := hs
  obtain ⟨k1, k2⟩ := hO.each e (by simp)
  obtain ⟨k3, k4⟩ := hO.each e' (by simp)
  have r0 := (hrow 0 (by simp)).2
  have r1 := (hrow 1 (by simp)).2
  simp only [Nat.zero_mul, Nat.add_zero] at r0
  simp only [Nat.one_mul] at r1
  have o1 := hok e.v (by simp)
  have o2 := hok e'.v (by simp)
  obtain ⟨⟨k, n, s, p⟩, u, lo, hi⟩ := e
  obtain ⟨⟨k', n', s', p'⟩, u', lo', hi'⟩ := e'
  exact primVal2_any ha ⟨hrl, hc4, hf, hR, hbl, by omega, r0, r1, h2, h3, Nat.le_trans g1 g2, k2, k1.keep (fun _ _ _ _ => rfl) (Nat.le_refl _) g1 (Nat.le_refl _), k3.keep (fun _ _ _ _ => rfl) (Nat.le_refl _) g3 k4⟩ o1 o2
 | a :: a' :: a'' :: r, ha, _ =>
  exfalso
  have := arP_le op
  simp only [List.length_cons] at ha
  omega
set_option maxHeartbeats 8000000 in
theorem plain_prim {ol : List Int} {op : ByteArray} {l : List Px} (hv : ∀ y ∈ l, ValueSays ol y) : ∀ (W0 w : World) (R : Nat) (A : Option Addr) (cap : Nat) (cs : List Value) (q : Nat), PxIn W0 cs (.prim op l) q -> PxW ol.length (.prim op l) -> RE W0 w R A cap ol →
  Calls Tryz.prog 90 #[.pointer (some ⟨R, 0, none⟩), .agg cs.toArray, .slice none 0 0] w (VaPost R w.heap.size w (evalX ol (.prim op l))) := fun W0 w R AR capR cs q hin hw hre => by
 have hok := (evalL_ok (o := ol.length) hre.ok rfl l (by cases hw; assumption)).1
 have hnz := (evalX_ok (o := ol.length) hre.ok rfl (.prim op l) hw).2
 cases hin with
 | prim dk dn ds dA dl dc d hd _ n nA nl nc aA ac _ h1 h2 cs ks hc hk h0 row each =>
 cases hw with
 | prim _ _ hl1' har hlw =>
 have hl2 : l.length <= 1000 := by have := arP_le op; omega
 obtain ⟨N, hN⟩ : ∃ N, l.length = N := ⟨_, rfl⟩
 have KV := Lib.hid (show ∀ W, RE W0 W R AR capR ol -> Calls Tryz.prog 86 #[.pointer (some ⟨R, 0, none⟩), .slice aA N ac, .slice none 0 0] W (VsPost R W (evalL ol l)) from fun W hW => by
  have := values_any l hv hl2 h1 h2 cs ks hc hk row each hlw hW
  rwa [hN] at this)
 have HN := Lib.hid hN
 have HAR := Lib.hid har
 have HOK := Lib.hid hok
 have HNZ := Lib.hid hnz
 have HL1 := Lib.hid hl1'
 rw [show Value.slice aA l.length ac = .slice aA N ac by rw [hN]]
 clear hN har hok hnz hl1' hv row each hlw hd hc hk h0 h1 hl2
 obtain ⟨wb, hwb⟩ : ∃ wb, (w.alloc (.cells #[.int .i64 10, .int .i64 dk, .int .i64 dn, .string ds, .slice dA dl dc, .string op, .int .i64 n, .slice nA nl nc, .slice aA N ac] 28)).alloc (.cells #[.int .i64 0, .int .i64 0, .string ⟨#[]⟩, .pointer none] 98) = wb := ⟨_, rfl⟩
 obtain ⟨hb, hsz, ha, ⟨u0, u1, u2, u3⟩, uf⟩ := box2 hwb
 have a0 := ha 0
 have a1 := ha 1
 have a2 := ha 2
 have a3 := ha 3
 have a4 := ha 4
 have a5 := ha 5
 have a6 := ha 6
 have a7 := ha 7
 have a8 := ha 8
 simp only [List.getElem?_toArray, List.getElem?_cons_zero, List.getElem?_cons_succ] at a0 a1 a2 a3 a4 a5 a6 a7 a8
 have hRl := hre.at_.lt
 have HRL := Lib.hid hRl
 have hl0 : w.heap.size < wb.heap.size := by omega
 have hl1 : w.heap.size + 1 < wb.heap.size := by omega
 have HB := Lib.hid hb
 have HWB := Lib.hid hwb
 have HSZ := Lib.hid hsz
 have HRE := Lib.hid hre
 have hRO : R < w.heap.size + 1 := by omega
 have KU := Lib.hid (show ∀ W, Rnr R wb W -> (W.cell? ⟨w.heap.size + 1, 0, none⟩ = some (.int .i64 0) /\ W.cell? ⟨w.heap.size + 1, 1, none⟩ = some (.int .i64 0) /\ W.cell? ⟨w.heap.size + 1, 2, none⟩ = some (.string ⟨#[]⟩) /\ W.cell? ⟨w.heap.size + 1, 3, none⟩ = some (.pointer none)) /\ (W.frozen? ⟨w.heap.size + 1, 0, none⟩ = false /\ W.frozen? ⟨w.heap.size + 1, 1, none⟩ = false /\ W.frozen? ⟨w.heap.size + 1, 2, none⟩ = false /\ W.frozen? ⟨w.heap.size + 1, 3, none⟩ = false) from fun W hW =>
  ⟨⟨(hW.at_ 0 hl1 hRO).trans u0, (hW.at_ 1 hl1 hRO).trans u1, (hW.at_ 2 hl1 hRO).trans u2, (hW.at_ 3 hl1 hRO).trans u3⟩, (hW.fzn 0 hl1 hRO).trans (uf 0), (hW.fzn 1 hl1 hRO).trans (uf 1), (hW.fzn 2 hl1 hRO).trans (uf 2), (hW.fzn 3 hl1 hRO).trans (uf 3)⟩)
 have HC3 := Lib.hid (show ∀ W, Rnr R wb W -> W.cell? ⟨R, 3, none⟩ = some (.bool true) from fun W hW => ((hre.rn ((Rnr.new hb hRl).trans hW)).at_).c3)
 have hreb := hre.new hb
 clear hre hwb hsz ha u0 u1 u2 u3 uf hb hRl
 go_enter Tryz.func90, Tryz.ntmps90
 go_upto_region 1 with fail
 rw [HWB.out]
 go_wp2_with fail
 refine (KV.out wb hreb).mono ?_
 rintro e w1 ⟨hr1, hd⟩
 obtain ⟨⟨u0, u1, u2, u3⟩, f0, f1, f2, f3⟩ := KU.out w1 hr1
 have hl2 : w.heap.size + 1 < w1.heap.size := Nat.lt_of_lt_of_le hl1 (hr1).size
 have HR1 := Lib.hid hr1
 rcases hd with ⟨X, v, vs, hvs, rfl, hown, hX, hsrt⟩ | ⟨er, hvs, hne, rfl⟩
 ·
  have HVS := Lib.hid hvs
  have HO := Lib.hid hown
  have HX := Lib.hid hX
  have HSR := Lib.hid hsrt
  obtain ⟨A9, c9, rfl, _⟩ := hown.form
  have hlA : w.heap.size < w1.heap.size := by omega
  have a0' := (hr1.at_ 0 hl0 (by have := HRL.out; omega)).trans a0
  have a5' := (hr1.at_ 5 hl0 (by have := HRL.out; omega)).trans a5
  have hR1 : R < w1.heap.size := by have := HRL.out; omega
  have hrw1 := HRE.out.rn ((Rnr.new HB.out HRL.out).trans hr1)
  have KC := Lib.hid (show ∀ W, Below w1.heap.size w1 W -> Calls Tryz.prog 104 #[.pointer (some ⟨R, 0, none⟩), .string op, .slice A9 X.length c9] W (VaPost R wb.heap.size W (evalX ol (.prim op l))) from fun W hW => by
   have hrW := hrw1.new hW
   have h := prim_call (op := op) (hown.new hW) (hsrt.up hW.size) (by rw [hX]; exact (HOK.out vs hvs).1) (by have h1 := HAR.out; have h2 := evalL_len hvs; rw [<- hX, List.length_map] at h2; omega) (by have h1 := HL1.out; have h2 := evalL_len hvs; rw [<- hX, List.length_map] at h2; omega) (by have := HRL.out; omega) hrW.at_.lt hrW.at_.c4 (hrW.at_.fz 4)
   rw [hX] at h
   rw [evalX, hvs]
   exact h)
  clear hvs hown hX hsrt hr1 hrw1 a0 a1 a2 a3 a4 a5 a6 a7 a8 u0 u1 u2 u3 f0 f1 f2 f3
  obtain ⟨M, hM⟩ : ∃ M, X.length = M := ⟨_, rfl⟩
  rw [hM] at KC ⊢
  clear hM
  go_wp2_with fail
  refine (asVal_any 3 0 ⟨#[]⟩ _).mono ?_
  rintro e w2 ⟨rfl, hb2⟩
  have c0 := (hb2.cell (p := ⟨w.heap.size, 0, none⟩) hlA).trans a0'
  have c5 := (hb2.cell (p := ⟨w.heap.size, 5, none⟩) hlA).trans a5'
  have hlA2 : w.heap.size < w2.heap.size := Nat.lt_of_lt_of_le hlA hb2.size
  have HB2 := Lib.hid hb2
  clear hb2 a0' a5'
  go_wp2_with fail
  have hb3 : Below w1.heap.size w1 (w2.alloc (.cells #[.int .i64 3, .int .i64 0, .string ⟨#[]⟩, .pointer none] 98)) := HB2.out.alloc HB2.out.size _
  refine (KC.out _ hb3).mono ?_
  rintro e w5 ⟨k1, n1, s1, p1, er, rfl, hr5, hd⟩
  have HR5 := Lib.hid (HR1.out.trans ((Rnr.new hb3 hR1).trans hr5))
  have HD := Lib.hid hd
  clear hr5 hd hb3 c0 c5 hl2
  obtain ⟨⟨u0, u1, u2, u3⟩, f0, f1, f2, f3⟩ := KU.out w5 HR5.out
  have hl2 : w.heap.size + 1 < w5.heap.size := Nat.lt_of_lt_of_le hl1 (HR5.out).size
  go_wp2_with fail
  obtain ⟨w9, hw9⟩ : ∃ w9, (((w5.setCell ⟨w.heap.size + 1, 0, none⟩ (.int .i64 k1)).setCell ⟨w.heap.size + 1, 1, none⟩ (.int .i64 n1)).setCell ⟨w.heap.size + 1, 2, none⟩ (.string s1)).setCell ⟨w.heap.size + 1, 3, none⟩ (.pointer p1) = w9 := ⟨_, rfl⟩
  obtain ⟨⟨s0, s1', s2, s3⟩, hr9, hg9⟩ := set_end (O := w.heap.size + 1) HRL.out (Nat.le_succ _) ((Rnr.new HB.out HRL.out).trans HR5.out) hw9 u0 u1 u2 u3
  rw [hw9]
  have hl9 : w.heap.size + 1 < w9.heap.size := Nat.lt_of_lt_of_le hl2 hg9.size
  have b9 : Below w9.heap.size w9 w9 := (Below.refl w9.heap.size w9)
  have z0 := (b9.cell (p := ⟨w.heap.size + 1, 0, none⟩) hl9).trans s0
  have z1 := (b9.cell (p := ⟨w.heap.size + 1, 1, none⟩) hl9).trans s1'
  have z2 := (b9.cell (p := ⟨w.heap.size + 1, 2, none⟩) hl9).trans s2
  have z3 := (b9.cell (p := ⟨w.heap.size + 1, 3, none⟩) hl9).trans s3
  refine bodyPost_ret (v := .tuple #[.agg #[.int .i64 k1, .int .i64 n1, .string s1, .pointer p1], .int .i64 er]) (by simp [results, Tryz.results90, go_sem, z0, z1, z2, z3]) rfl ?_
  have hsz := HSZ.out
  have hr10 := hr9.trans (Rnr.new b9 (Nat.lt_of_lt_of_le HRL.out hr9.size))
  refine ⟨_, _, _, _, er, rfl, hr10, ?_⟩
  rcases HD.out with ⟨v, hv, he, hx⟩ | h
  ·
   exact Or.inl ⟨v, hv, he, hx.past (lo' := w.heap.size) hg9 (by omega) (by omega)⟩
  exact Or.inr h
 have hnb : (er == 0) = false := by simpa using hne
 have HVS := Lib.hid hvs
 have HNE := Lib.hid hne
 clear hvs hne a0 a1 a2 a3 a4 a5 a6 a7 a8
 go_wp2_with fail
 obtain ⟨w9, hw9⟩ : ∃ w9, (((w1.setCell ⟨w.heap.size + 1, 0, none⟩ (.int .i64 0)).setCell ⟨w.heap.size + 1, 1, none⟩ (.int .i64 0)).setCell ⟨w.heap.size + 1, 2, none⟩ (.string ⟨#[]⟩)).setCell ⟨w.heap.size + 1, 3, none⟩ (.pointer none) = w9 := ⟨_, rfl⟩
 obtain ⟨⟨s0, s1', s2, s3⟩, hr9, hg9⟩ := set_end (O := w.heap.size + 1) HRL.out (Nat.le_succ _) ((Rnr.new HB.out HRL.out).trans HR1.out) hw9 u0 u1 u2 u3
 rw [hw9]
 have hl9 : w.heap.size + 1 < w9.heap.size := Nat.lt_of_lt_of_le hl2 hg9.size
 have b9 : Below w9.heap.size w9 w9 := (Below.refl w9.heap.size w9)
 have z0 := (b9.cell (p := ⟨w.heap.size + 1, 0, none⟩) hl9).trans s0
 have z1 := (b9.cell (p := ⟨w.heap.size + 1, 1, none⟩) hl9).trans s1'
 have z2 := (b9.cell (p := ⟨w.heap.size + 1, 2, none⟩) hl9).trans s2
 have z3 := (b9.cell (p := ⟨w.heap.size + 1, 3, none⟩) hl9).trans s3
 refine bodyPost_ret (v := .tuple #[.agg #[.int .i64 0, .int .i64 0, .string ⟨#[]⟩, .pointer none], .int .i64 er]) (by simp [results, Tryz.results90, go_sem, z0, z1, z2, z3]) rfl ?_
 have hsz := HSZ.out
 have hr10 := hr9.trans (Rnr.new b9 (Nat.lt_of_lt_of_le HRL.out hr9.size))
 exact ⟨_, _, _, _, er, rfl, hr10, Or.inr ⟨by rw [evalX, HVS.out], HNE.out⟩⟩
set_option maxHeartbeats 8000000 in
theorem meant_const {ol : List Int} (d : Dt) : MeantSays ol (.const d) := fun W0 w R AR capR cs q t hin hw hre => by
 cases hin with
 | const dk dn ds dA dl dc _ hd s n nA nl nc aA ac h2 =>
 cases hw with
 | const _ hdw =>
 obtain ⟨wb, hwb⟩ : ∃ wb, (w.alloc (.cells #[.int .i64 1, .int .i64 dk, .int .i64 dn, .string ds, .slice dA dl dc, .string s, .int .i64 n, .slice nA nl nc, .slice aA 0 ac] 28)).alloc (.cells #[.int .i64 0, .int .i64 0, .string ⟨#[]⟩, .pointer none] 98) = wb := ⟨_, rfl⟩
 obtain ⟨hb, hsz, ha, ⟨u0, u1, u2, u3⟩, uf⟩ := box2 hwb
 have a0 := ha 0
 have a1 := ha 1
 have a2 := ha 2
 have a3 := ha 3
 have a4 := ha 4
 simp only [List.getElem?_toArray, List.getElem?_cons_zero, List.getElem?_cons_succ] at a0 a1 a2 a3 a4
 have hRl := hre.at_.lt
 have HRL := Lib.hid hRl
 have hl0 : w.heap.size < wb.heap.size := by omega
 have hl1 : w.heap.size + 1 < wb.heap.size := by omega
 have HB := Lib.hid hb
 have HWB := Lib.hid hwb
 have HSZ := Lib.hid hsz
 have HRE := Lib.hid hre
 have hRO : R < w.heap.size + 1 := by omega
 have KU := Lib.hid (show ∀ W, Rnr R wb W -> (W.cell? ⟨w.heap.size + 1, 0, none⟩ = some (.int .i64 0) /\ W.cell? ⟨w.heap.size + 1, 1, none⟩ = some (.int .i64 0) /\ W.cell? ⟨w.heap.size + 1, 2, none⟩ = some (.string ⟨#[]⟩) /\ W.cell? ⟨w.heap.size + 1, 3, none⟩ = some (.pointer none)) /\ (W.frozen? ⟨w.heap.size + 1, 0, none⟩ = false /\ W.frozen? ⟨w.heap.size + 1, 1, none⟩ = false /\ W.frozen? ⟨w.heap.size + 1, 2, none⟩ = false /\ W.frozen? ⟨w.heap.size + 1, 3, none⟩ = false) from fun W hW =>
  ⟨⟨(hW.at_ 0 hl1 hRO).trans u0, (hW.at_ 1 hl1 hRO).trans u1, (hW.at_ 2 hl1 hRO).trans u2, (hW.at_ 3 hl1 hRO).trans u3⟩, (hW.fzn 0 hl1 hRO).trans (uf 0), (hW.fzn 1 hl1 hRO).trans (uf 1), (hW.fzn 2 hl1 hRO).trans (uf 2), (hW.fzn 3 hl1 hRO).trans (uf 3)⟩)
 have HC3 := Lib.hid (show ∀ W, Rnr R wb W -> W.cell? ⟨R, 3, none⟩ = some (.bool true) from fun W hW => ((hre.rn ((Rnr.new hb hRl).trans hW)).at_).c3)
 have hreb := hre.new hb
 have KD := Lib.hid (datumVal_any (countD d) W0 wb R AR capR ol _ d (Nat.le_refl _) hd hdw hreb.old hreb.le hreb.at_)
 clear hd hdw hreb
 clear hre hwb hsz ha u0 u1 u2 u3 uf hb hRl
 have c3 := HC3.out wb (Rnr.refl _ _)
 go_enter Tryz.func54, Tryz.ntmps54
 go_upto_region 1 with fail
 rw [HWB.out]
 go_wp2_with fail
 refine KD.out.mono ?_
 rintro e w1 ⟨k1, n1, s1, p1, rfl, hv, hr1⟩
 have HR1 := Lib.hid hr1
 have HV := Lib.hid hv
 clear hr1 hv a0 a1 a2 a3 a4 c3
 obtain ⟨⟨u0, u1, u2, u3⟩, f0, f1, f2, f3⟩ := KU.out w1 HR1.out
 have hl2 : w.heap.size + 1 < w1.heap.size := Nat.lt_of_lt_of_le hl1 (HR1.out).size
 go_wp2_with fail
 obtain ⟨w9, hw9⟩ : ∃ w9, (((w1.setCell ⟨w.heap.size + 1, 0, none⟩ (.int .i64 k1)).setCell ⟨w.heap.size + 1, 1, none⟩ (.int .i64 n1)).setCell ⟨w.heap.size + 1, 2, none⟩ (.string s1)).setCell ⟨w.heap.size + 1, 3, none⟩ (.pointer p1) = w9 := ⟨_, rfl⟩
 obtain ⟨⟨s0, s1', s2, s3⟩, hr9, hg9⟩ := set_end (O := w.heap.size + 1) HRL.out (Nat.le_succ _) ((Rnr.new HB.out HRL.out).trans HR1.out) hw9 u0 u1 u2 u3
 rw [hw9]
 have hl9 : w.heap.size + 1 < w9.heap.size := Nat.lt_of_lt_of_le hl2 hg9.size
 have b9 : Below w9.heap.size w9 w9 := (Below.refl w9.heap.size w9)
 have z0 := (b9.cell (p := ⟨w.heap.size + 1, 0, none⟩) hl9).trans s0
 have z1 := (b9.cell (p := ⟨w.heap.size + 1, 1, none⟩) hl9).trans s1'
 have z2 := (b9.cell (p := ⟨w.heap.size + 1, 2, none⟩) hl9).trans s2
 have z3 := (b9.cell (p := ⟨w.heap.size + 1, 3, none⟩) hl9).trans s3
 refine bodyPost_ret (v := .tuple #[.agg #[.int .i64 k1, .int .i64 n1, .string s1, .pointer p1], .pointer none, .int .i64 0]) (by simp [results, Tryz.results54, go_sem, z0, z1, z2, z3]) rfl ?_
 have hsz := HSZ.out
 have hr10 := hr9.trans (Rnr.new b9 (Nat.lt_of_lt_of_le HRL.out hr9.size))
 rw [evalX]
 exact ⟨_, _, _, _, 0, rfl, hr10, Or.inl ⟨_, rfl, rfl, HV.out.past (lo' := w.heap.size) hg9 (by omega) (by omega)⟩⟩
set_option maxHeartbeats 8000000 in
theorem meant_was {ol : List Int} (i : Nat) : MeantSays ol (.was i) := fun W0 w R AR capR cs q t hin hw hre => by
 cases hin with
 | was dk dn ds dA dl dc _ hd s n _ hi nA nl nc aA ac h2 =>
 subst hi
 cases hw with
 | was _ hio =>
 obtain ⟨b, o2, rfl, hbl, hbR, hrow⟩ := hre.at_.row (by omega)
 have hri := MV.at_ (hrow i hio)
 obtain ⟨m, hm⟩ : ∃ m, ol[i] = m := ⟨_, rfl⟩
 have hev : evalX ol (.was i) = .ok (.int m) := by rw [evalX, List.getD_eq_getElem?_getD, List.getElem?_eq_getElem hio, hm]; rfl
 rw [hev]
 rw [hm] at hri
 obtain ⟨r0, r1, r2, r3⟩ := hri
 simp only at r0 r1 r2 r3
 obtain ⟨wb, hwb⟩ : ∃ wb, (w.alloc (.cells #[.int .i64 15, .int .i64 dk, .int .i64 dn, .string ds, .slice dA dl dc, .string s, .int .i64 i, .slice nA nl nc, .slice aA 0 ac] 28)).alloc (.cells #[.int .i64 0, .int .i64 0, .string ⟨#[]⟩, .pointer none] 98) = wb := ⟨_, rfl⟩
 obtain ⟨hb, hsz, ha, ⟨u0, u1, u2, u3⟩, uf⟩ := box2 hwb
 have a0 := ha 0
 have a6 := ha 6
 simp only [List.getElem?_toArray, List.getElem?_cons_zero, List.getElem?_cons_succ] at a0 a6
 have hRl := hre.at_.lt
 have HRL := Lib.hid hRl
 have hl0 : w.heap.size < wb.heap.size := by omega
 have hl1 : w.heap.size + 1 < wb.heap.size := by omega
 have HB := Lib.hid hb
 have HWB := Lib.hid hwb
 have HSZ := Lib.hid hsz
 have HRE := Lib.hid hre
 have hRO : R < w.heap.size + 1 := by omega
 have KU := Lib.hid (show ∀ W, Rnr R wb W -> (W.cell? ⟨w.heap.size + 1, 0, none⟩ = some (.int .i64 0) /\ W.cell? ⟨w.heap.size + 1, 1, none⟩ = some (.int .i64 0) /\ W.cell? ⟨w.heap.size + 1, 2, none⟩ = some (.string ⟨#[]⟩) /\ W.cell? ⟨w.heap.size + 1, 3, none⟩ = some (.pointer none)) /\ (W.frozen? ⟨w.heap.size + 1, 0, none⟩ = false /\ W.frozen? ⟨w.heap.size + 1, 1, none⟩ = false /\ W.frozen? ⟨w.heap.size + 1, 2, none⟩ = false /\ W.frozen? ⟨w.heap.size + 1, 3, none⟩ = false) from fun W hW =>
  ⟨⟨(hW.at_ 0 hl1 hRO).trans u0, (hW.at_ 1 hl1 hRO).trans u1, (hW.at_ 2 hl1 hRO).trans u2, (hW.at_ 3 hl1 hRO).trans u3⟩, (hW.fzn 0 hl1 hRO).trans (uf 0), (hW.fzn 1 hl1 hRO).trans (uf 1), (hW.fzn 2 hl1 hRO).trans (uf 2), (hW.fzn 3 hl1 hRO).trans (uf 3)⟩)
 have HC3 := Lib.hid (show ∀ W, Rnr R wb W -> W.cell? ⟨R, 3, none⟩ = some (.bool true) from fun W hW => ((hre.rn ((Rnr.new hb hRl).trans hW)).at_).c3)
 have hreb := (hre.new hb).at_
 have c5 := hreb.c5
 have hle := hreb.le
 have hcap := hreb.cap_
 have hcap2 : capR <= 9223372036854775807 := by unfold maxLen at hcap; omega
 have hi0 : (0 : Int) <= (i : Int) := Int.natCast_nonneg _
 have hic : (i : Int) < (capR : Int) := by omega
 have hil : (i : Int) < (ol.length : Int) := by omega
 obtain ⟨L, hL⟩ : ∃ L, ol.length = L := ⟨_, rfl⟩
 rw [hL] at c5 hil
 have r0 := (hb.cell (p := ⟨b, o2 + i * 4, none⟩) hbl).trans r0
 have r1 := (hb.cell (p := ⟨b, o2 + i * 4 + 1, none⟩) hbl).trans r1
 have r2 := (hb.cell (p := ⟨b, o2 + i * 4 + 2, none⟩) hbl).trans r2
 have r3 := (hb.cell (p := ⟨b, o2 + i * 4 + 3, none⟩) hbl).trans r3
 clear hd hreb hrow hm hev hL hio hle hcap
 clear hre hwb hsz ha u0 u1 u2 u3 uf hb hRl
 have c3 := HC3.out wb (Rnr.refl _ _)
 go_enter Tryz.func54, Tryz.ntmps54
 go_upto_region 1 with fail
 rw [HWB.out]
 go_upto_region 9 with fail
 obtain ⟨⟨u0, u1, u2, u3⟩, f0, f1, f2, f3⟩ := KU.out wb (Rnr.refl R wb)
 have hl2 : w.heap.size + 1 < wb.heap.size := Nat.lt_of_lt_of_le hl1 ((Rnr.refl R wb)).size
 have hbb := Nat.lt_of_lt_of_le hbl HB.out.size
 clear c3
 go_region
 all_goals
  go_wp2_with fail
  obtain ⟨w9, hw9⟩ : ∃ w9, (((wb.setCell ⟨w.heap.size + 1, 0, none⟩ (.int .i64 1)).setCell ⟨w.heap.size + 1, 1, none⟩ (.int .i64 m)).setCell ⟨w.heap.size + 1, 2, none⟩ (.string ⟨#[]⟩)).setCell ⟨w.heap.size + 1, 3, none⟩ (.pointer none) = w9 := ⟨_, rfl⟩
  obtain ⟨⟨s0, s1', s2, s3⟩, hr9, hg9⟩ := set_end (O := w.heap.size + 1) HRL.out (Nat.le_succ _) ((Rnr.new HB.out HRL.out).trans (Rnr.refl R wb)) hw9 u0 u1 u2 u3
  rw [hw9]
  have hl9 : w.heap.size + 1 < w9.heap.size := Nat.lt_of_lt_of_le hl2 hg9.size
  have b9 : Below w9.heap.size w9 w9.drew := ((Below.refl w9.heap.size w9).drew)
  have z0 := (b9.cell (p := ⟨w.heap.size + 1, 0, none⟩) hl9).trans s0
  have z1 := (b9.cell (p := ⟨w.heap.size + 1, 1, none⟩) hl9).trans s1'
  have z2 := (b9.cell (p := ⟨w.heap.size + 1, 2, none⟩) hl9).trans s2
  have z3 := (b9.cell (p := ⟨w.heap.size + 1, 3, none⟩) hl9).trans s3
  refine bodyPost_ret (v := .tuple #[.agg #[.int .i64 1, .int .i64 m, .string ⟨#[]⟩, .pointer none], .pointer none, .int .i64 0]) (by simp [results, Tryz.results54, go_sem, z0, z1, z2, z3]) rfl ?_
  have hsz := HSZ.out
  have hr10 := hr9.trans (Rnr.new b9 (Nat.lt_of_lt_of_le HRL.out hr9.size))
  exact ⟨_, _, _, _, 0, rfl, hr10, Or.inl ⟨_, rfl, rfl, .int m⟩⟩
set_option maxHeartbeats 8000000 in
theorem meant_prim {ol : List Int} {op : ByteArray} {l : List Px} (hv : ∀ y ∈ l, ValueSays ol y) : MeantSays ol (.prim op l) := fun W0 w R AR capR cs q t hin hw hre => by
 have KP := Lib.hid (fun (W : World) (hW : RE W0 W R AR capR ol) => plain_prim hv W0 W R AR capR cs q hin hw hW)
 obtain ⟨k, dk, dn, ds, dA, dl, dc, s, n, nA, nl, nc, aA, al, ac, rfl⟩ := hin.form
 have hk : k = 10 := by cases hin; rfl
 subst hk
 obtain ⟨wb, hwb⟩ : ∃ wb, (w.alloc (.cells #[.int .i64 10, .int .i64 dk, .int .i64 dn, .string ds, .slice dA dl dc, .string s, .int .i64 n, .slice nA nl nc, .slice aA al ac] 28)).alloc (.cells #[.int .i64 0, .int .i64 0, .string ⟨#[]⟩, .pointer none] 98) = wb := ⟨_, rfl⟩
 obtain ⟨hb, hsz, ha, ⟨u0, u1, u2, u3⟩, uf⟩ := box2 hwb
 have a0 := ha 0
 have a1 := ha 1
 have a2 := ha 2
 have a3 := ha 3
 have a4 := ha 4
 have a5 := ha 5
 have a6 := ha 6
 have a7 := ha 7
 have a8 := ha 8
 simp only [List.getElem?_toArray, List.getElem?_cons_zero, List.getElem?_cons_succ] at a0 a1 a2 a3 a4 a5 a6 a7 a8
 have hRl := hre.at_.lt
 have HRL := Lib.hid hRl
 have hl0 : w.heap.size < wb.heap.size := by omega
 have hl1 : w.heap.size + 1 < wb.heap.size := by omega
 have HB := Lib.hid hb
 have HWB := Lib.hid hwb
 have HSZ := Lib.hid hsz
 have HRE := Lib.hid hre
 have hRO : R < w.heap.size + 1 := by omega
 have KU := Lib.hid (show ∀ W, Rnr R wb W -> (W.cell? ⟨w.heap.size + 1, 0, none⟩ = some (.int .i64 0) /\ W.cell? ⟨w.heap.size + 1, 1, none⟩ = some (.int .i64 0) /\ W.cell? ⟨w.heap.size + 1, 2, none⟩ = some (.string ⟨#[]⟩) /\ W.cell? ⟨w.heap.size + 1, 3, none⟩ = some (.pointer none)) /\ (W.frozen? ⟨w.heap.size + 1, 0, none⟩ = false /\ W.frozen? ⟨w.heap.size + 1, 1, none⟩ = false /\ W.frozen? ⟨w.heap.size + 1, 2, none⟩ = false /\ W.frozen? ⟨w.heap.size + 1, 3, none⟩ = false) from fun W hW =>
  ⟨⟨(hW.at_ 0 hl1 hRO).trans u0, (hW.at_ 1 hl1 hRO).trans u1, (hW.at_ 2 hl1 hRO).trans u2, (hW.at_ 3 hl1 hRO).trans u3⟩, (hW.fzn 0 hl1 hRO).trans (uf 0), (hW.fzn 1 hl1 hRO).trans (uf 1), (hW.fzn 2 hl1 hRO).trans (uf 2), (hW.fzn 3 hl1 hRO).trans (uf 3)⟩)
 have HC3 := Lib.hid (show ∀ W, Rnr R wb W -> W.cell? ⟨R, 3, none⟩ = some (.bool true) from fun W hW => ((hre.rn ((Rnr.new hb hRl).trans hW)).at_).c3)
 have hreb := hre.new hb
 clear hin hw hv
 clear hre hwb hsz ha u0 u1 u2 u3 uf hb hRl
 have c3 := HC3.out wb (Rnr.refl _ _)
 go_enter Tryz.func54, Tryz.ntmps54
 go_upto_region 1 with fail
 rw [HWB.out]
 go_wp2_with fail
 refine (KP.out wb hreb).mono ?_
 rintro e w1 ⟨k1, n1, s1, p1, er, rfl, hr1, hd⟩
 have HR1 := Lib.hid hr1
 have HD := Lib.hid hd
 clear hr1 hd a0 a1 a2 a3 a4 a5 a6 a7 a8 c3 hreb
 obtain ⟨⟨u0, u1, u2, u3⟩, f0, f1, f2, f3⟩ := KU.out w1 HR1.out
 have hl2 : w.heap.size + 1 < w1.heap.size := Nat.lt_of_lt_of_le hl1 (HR1.out).size
 go_wp2_with fail
 obtain ⟨w9, hw9⟩ : ∃ w9, (((w1.setCell ⟨w.heap.size + 1, 0, none⟩ (.int .i64 k1)).setCell ⟨w.heap.size + 1, 1, none⟩ (.int .i64 n1)).setCell ⟨w.heap.size + 1, 2, none⟩ (.string s1)).setCell ⟨w.heap.size + 1, 3, none⟩ (.pointer p1) = w9 := ⟨_, rfl⟩
 obtain ⟨⟨s0, s1', s2, s3⟩, hr9, hg9⟩ := set_end (O := w.heap.size + 1) HRL.out (Nat.le_succ _) ((Rnr.new HB.out HRL.out).trans HR1.out) hw9 u0 u1 u2 u3
 rw [hw9]
 have hl9 : w.heap.size + 1 < w9.heap.size := Nat.lt_of_lt_of_le hl2 hg9.size
 have b9 : Below w9.heap.size w9 (w9.alloc (.cells #[.int .i64 k1, .int .i64 n1, .string s1, .pointer p1] 98)) := ((Below.refl w9.heap.size w9).alloc (Nat.le_refl _) (.cells #[.int .i64 k1, .int .i64 n1, .string s1, .pointer p1] 98))
 have z0 := (b9.cell (p := ⟨w.heap.size + 1, 0, none⟩) hl9).trans s0
 have z1 := (b9.cell (p := ⟨w.heap.size + 1, 1, none⟩) hl9).trans s1'
 have z2 := (b9.cell (p := ⟨w.heap.size + 1, 2, none⟩) hl9).trans s2
 have z3 := (b9.cell (p := ⟨w.heap.size + 1, 3, none⟩) hl9).trans s3
 refine bodyPost_ret (v := .tuple #[.agg #[.int .i64 k1, .int .i64 n1, .string s1, .pointer p1], .pointer none, .int .i64 er]) (by simp [results, Tryz.results54, go_sem, z0, z1, z2, z3]) rfl ?_
 have hsz := HSZ.out
 have hr10 := hr9.trans (Rnr.new b9 (Nat.lt_of_lt_of_le HRL.out hr9.size))
 refine ⟨_, _, _, _, er, rfl, hr10, ?_⟩
 rcases HD.out with ⟨v, hv, he, hx⟩ | h
 ·
  exact Or.inl ⟨v, hv, he, (hx.past (lo' := w.heap.size) hg9 (by omega) (by omega)).new b9 b9.size⟩
 exact Or.inr h
set_option maxHeartbeats 8000000 in
theorem meant_ite {ol : List Int} {a b c : Px} (ha : MeantSays ol a) (hb : MeantSays ol b) (hc : MeantSays ol c) : MeantSays ol (.ite a b c) := fun W0 w R AR capR cs q t hin hw hre => by
 cases hin with
 | ite dk dn ds dA dl dc _ hd s n nA nl nc aA ac h1 h2 c0 c1 c2 row _ _ _ q0 q1 q2 e0 e1 e2 =>
 cases hw with
 | ite _ _ _ hw1 hw2 hw3 =>
 have hac : ac <= 9223372036854775807 := by unfold maxLen at h2; omega
 have hac0 : (0 : Int) < (ac : Int) := by omega
 have hac1 : (1 : Int) < (ac : Int) := by omega
 have hac2 : (2 : Int) < (ac : Int) := by omega
 obtain ⟨bb, o2, hAb, hbw, hrow⟩ := row (by simp)
 subst hAb
 obtain ⟨pk, pdk, pdn, pds, pdA, pdl, pdc, ps, pn, pnA, pnl, pnc, paA, pal, pac, rfl⟩ := e0.form
 obtain ⟨qk, qdk, qdn, qds, qdA, qdl, qdc, qs, qn, qnA, qnl, qnc, qaA, qal, qac, rfl⟩ := e1.form
 obtain ⟨rk, rdk, rdn, rds, rdA, rdl, rdc, rs, rn, rnA, rnl, rnc, raA, ral, rac, rfl⟩ := e2.form
 have KR := Lib.hid (show ∀ W, Below W0.heap.size W0 W -> RowAt W bb o2 _ /\ RowAt W bb (o2 + 9) _ /\ RowAt W bb (o2 + 18) _ from fun W hW => ⟨fun j hj => (hW.cell (p := ⟨bb, _, none⟩) hbw).trans (by have := hrow 0 (by simp) j hj; simpa using this), fun j hj => (hW.cell (p := ⟨bb, _, none⟩) hbw).trans (by have := hrow 1 (by simp) j hj; simpa using this), fun j hj => (hW.cell (p := ⟨bb, _, none⟩) hbw).trans (by have := hrow 2 (by simp) j hj; simpa using this)⟩)
 have KA := Lib.hid (fun (W : World) (hW : RE W0 W R AR capR ol) => value_any ha W0 W R AR capR _ q0 e0 hw1 hW)
 have KB := Lib.hid (fun (W : World) (hW : RE W0 W R AR capR ol) => hb W0 W R AR capR _ q1 t e1 hw2 hW)
 have KC := Lib.hid (fun (W : World) (hW : RE W0 W R AR capR ol) => hc W0 W R AR capR _ q2 t e2 hw3 hW)
 clear ha hb hc e0 e1 e2 hw1 hw2 hw3 row hrow hd
 obtain ⟨wb, hwb⟩ : ∃ wb, (w.alloc (.cells #[.int .i64 4, .int .i64 dk, .int .i64 dn, .string ds, .slice dA dl dc, .string s, .int .i64 n, .slice nA nl nc, .slice (some ⟨bb, o2, none⟩) 3 ac] 28)).alloc (.cells #[.int .i64 0, .int .i64 0, .string ⟨#[]⟩, .pointer none] 98) = wb := ⟨_, rfl⟩
 obtain ⟨hb, hsz, ha, ⟨u0, u1, u2, u3⟩, uf⟩ := box2 hwb
 have a0 := ha 0
 have a8 := ha 8
 simp only [List.getElem?_toArray, List.getElem?_cons_zero, List.getElem?_cons_succ] at a0 a8
 have hRl := hre.at_.lt
 have HRL := Lib.hid hRl
 have hl0 : w.heap.size < wb.heap.size := by omega
 have hl1 : w.heap.size + 1 < wb.heap.size := by omega
 have HB := Lib.hid hb
 have HWB := Lib.hid hwb
 have HSZ := Lib.hid hsz
 have HRE := Lib.hid hre
 have hRO : R < w.heap.size + 1 := by omega
 have KU := Lib.hid (show ∀ W, Rnr R wb W -> (W.cell? ⟨w.heap.size + 1, 0, none⟩ = some (.int .i64 0) /\ W.cell? ⟨w.heap.size + 1, 1, none⟩ = some (.int .i64 0) /\ W.cell? ⟨w.heap.size + 1, 2, none⟩ = some (.string ⟨#[]⟩) /\ W.cell? ⟨w.heap.size + 1, 3, none⟩ = some (.pointer none)) /\ (W.frozen? ⟨w.heap.size + 1, 0, none⟩ = false /\ W.frozen? ⟨w.heap.size + 1, 1, none⟩ = false /\ W.frozen? ⟨w.heap.size + 1, 2, none⟩ = false /\ W.frozen? ⟨w.heap.size + 1, 3, none⟩ = false) from fun W hW =>
  ⟨⟨(hW.at_ 0 hl1 hRO).trans u0, (hW.at_ 1 hl1 hRO).trans u1, (hW.at_ 2 hl1 hRO).trans u2, (hW.at_ 3 hl1 hRO).trans u3⟩, (hW.fzn 0 hl1 hRO).trans (uf 0), (hW.fzn 1 hl1 hRO).trans (uf 1), (hW.fzn 2 hl1 hRO).trans (uf 2), (hW.fzn 3 hl1 hRO).trans (uf 3)⟩)
 have HC3 := Lib.hid (show ∀ W, Rnr R wb W -> W.cell? ⟨R, 3, none⟩ = some (.bool true) from fun W hW => ((hre.rn ((Rnr.new hb hRl).trans hW)).at_).c3)
 have hreb := hre.new hb
 clear hre hwb hsz ha u0 u1 u2 u3 uf hb hRl
 have c3 := HC3.out wb (Rnr.refl _ _)
 have hr0 := (KR.out wb (hreb).old).1
 have x0 := hr0 0 (by simp)
 have x1 := hr0 1 (by simp)
 have x2 := hr0 2 (by simp)
 have x3 := hr0 3 (by simp)
 have x4 := hr0 4 (by simp)
 have x5 := hr0 5 (by simp)
 have x6 := hr0 6 (by simp)
 have x7 := hr0 7 (by simp)
 have x8 := hr0 8 (by simp)
 simp only [List.getElem?_cons_zero, List.getElem?_cons_succ, Nat.add_zero] at x0 x1 x2 x3 x4 x5 x6 x7 x8
 clear hr0
 go_enter Tryz.func54, Tryz.ntmps54
 go_upto_region 1 with fail
 rw [HWB.out]
 go_wp2_with fail
 refine (KA.out wb hreb).mono ?_
 rintro e w1 ⟨k1, n1, s1, p1, er, rfl, hr1, hd⟩
 have a8' := (hr1.at_ 8 hl0 (by have := HRL.out; omega)).trans a8
 have HR1 := Lib.hid hr1
 have hlA : w.heap.size < w1.heap.size := Nat.lt_of_lt_of_le hl0 hr1.size
 have hR1 : R < w1.heap.size := by have := HRL.out; omega
 obtain ⟨⟨u0, u1, u2, u3⟩, f0, f1, f2, f3⟩ := KU.out w1 hr1
 have hl2 : w.heap.size + 1 < w1.heap.size := Nat.lt_of_lt_of_le hl1 (hr1).size
 clear hr1 a0 a8 x0 x1 x2 x3 x4 x5 x6 x7 x8 c3 hreb
 rcases hd with ⟨v, hva, rfl, hx⟩ | ⟨hva, hne⟩
 ·
  have HVA := Lib.hid hva
  obtain ⟨w2, hw2⟩ : ∃ w2, w1.alloc (.cells #[.int .i64 k1, .int .i64 n1, .string s1, .pointer p1] 98) = w2 := ⟨_, rfl⟩
  have b2 : Below w1.heap.size w1 w2 := by rw [<- hw2]; exact (Below.refl _ _).alloc (Nat.le_refl _) _
  have y0 : w2.cell? ⟨w1.heap.size, 0, none⟩ = some (.int .i64 k1) := by rw [<- hw2]; exact za _ _ _ 0
  have y1 : w2.cell? ⟨w1.heap.size, 1, none⟩ = some (.int .i64 n1) := by rw [<- hw2]; exact za _ _ _ 1
  have y2 : w2.cell? ⟨w1.heap.size, 2, none⟩ = some (.string s1) := by rw [<- hw2]; exact za _ _ _ 2
  have y3 : w2.cell? ⟨w1.heap.size, 3, none⟩ = some (.pointer p1) := by rw [<- hw2]; exact za _ _ _ 3
  have KF := Lib.hid (isFalse_any (hx.new b2 b2.size))
  have a8' := (b2.cell (p := ⟨w.heap.size, 8, none⟩) hlA).trans a8'
  have HW2 := Lib.hid hw2
  have hlA2 : w.heap.size < w2.heap.size := Nat.lt_of_lt_of_le hlA b2.size
  have HR2 := Lib.hid (HR1.out.trans (Rnr.new b2 hR1))
  clear hva hx hw2 b2 u0 u1 u2 u3 f0 f1 f2 f3 hl2
  go_upto_region 18 with fail
  rw [HW2.out]
  go_wp2_with fail
  refine KF.out.mono ?_
  rintro e w3 ⟨rfl, hb3⟩
  have a8' := (hb3.cell (p := ⟨w.heap.size, 8, none⟩) hlA2).trans a8'
  have HR3 := Lib.hid (HR2.out.trans (Rnr.new hb3 (Nat.lt_of_lt_of_le hR1 (by have := HW2.out; rw [<- this]; simp))))
  have HS3 := Lib.hid (show wb.heap.size <= w3.heap.size from HR3.out.size)
  have hre3 := HRE.out.rn ((Rnr.new HB.out HRL.out).trans HR3.out)
  clear hb3 y0 y1 y2 y3
  cases hF : isF v
  ·
   have HF := Lib.hid hF
   clear hF
   have hr1 := (KR.out w3 (hre3).old).2.1
   have x0 := hr1 0 (by simp)
   have x1 := hr1 1 (by simp)
   have x2 := hr1 2 (by simp)
   have x3 := hr1 3 (by simp)
   have x4 := hr1 4 (by simp)
   have x5 := hr1 5 (by simp)
   have x6 := hr1 6 (by simp)
   have x7 := hr1 7 (by simp)
   have x8 := hr1 8 (by simp)
   simp only [List.getElem?_cons_zero, List.getElem?_cons_succ, Nat.add_zero, Nat.add_assoc, Nat.reduceAdd] at x0 x1 x2 x3 x4 x5 x6 x7 x8
   clear hr1
   go_wp2_with fail
   refine (KB.out w3 hre3).mono ?_
   rintro e w5 ⟨k2, n2, s2', p2, er2, rfl, hr5, hd5⟩
   have HR5 := Lib.hid (HR3.out.trans hr5)
   have HD5 := Lib.hid hd5
   clear hr5 hd5 x0 x1 x2 x3 x4 x5 x6 x7 x8 hre3 a8'
   obtain ⟨⟨u0, u1, u2, u3⟩, f0, f1, f2, f3⟩ := KU.out w5 HR5.out
   have hl2 : w.heap.size + 1 < w5.heap.size := Nat.lt_of_lt_of_le hl1 (HR5.out).size
   go_wp2_with fail
   obtain ⟨w9, hw9⟩ : ∃ w9, (((w5.setCell ⟨w.heap.size + 1, 0, none⟩ (.int .i64 k2)).setCell ⟨w.heap.size + 1, 1, none⟩ (.int .i64 n2)).setCell ⟨w.heap.size + 1, 2, none⟩ (.string s2')).setCell ⟨w.heap.size + 1, 3, none⟩ (.pointer p2) = w9 := ⟨_, rfl⟩
   obtain ⟨⟨s0, s1', s2, s3⟩, hr9, hg9⟩ := set_end (O := w.heap.size + 1) HRL.out (Nat.le_succ _) ((Rnr.new HB.out HRL.out).trans HR5.out) hw9 u0 u1 u2 u3
   rw [hw9]
   have hl9 : w.heap.size + 1 < w9.heap.size := Nat.lt_of_lt_of_le hl2 hg9.size
   have b9 : Below w9.heap.size w9 w9 := (Below.refl w9.heap.size w9)
   have z0 := (b9.cell (p := ⟨w.heap.size + 1, 0, none⟩) hl9).trans s0
   have z1 := (b9.cell (p := ⟨w.heap.size + 1, 1, none⟩) hl9).trans s1'
   have z2 := (b9.cell (p := ⟨w.heap.size + 1, 2, none⟩) hl9).trans s2
   have z3 := (b9.cell (p := ⟨w.heap.size + 1, 3, none⟩) hl9).trans s3
   refine bodyPost_ret (v := .tuple #[.agg #[.int .i64 k2, .int .i64 n2, .string s2', .pointer p2], .pointer none, .int .i64 er2]) (by simp [results, Tryz.results54, go_sem, z0, z1, z2, z3]) rfl ?_
   have hsz := HSZ.out
   have hr10 := hr9.trans (Rnr.new b9 (Nat.lt_of_lt_of_le HRL.out hr9.size))
   refine ⟨_, _, _, _, er2, rfl, hr10, ?_⟩
   rw [evalX, HVA.out]
   simp only [HF.out, Bool.false_eq_true, if_false]
   have hs3 := HS3.out
   rcases HD5.out with ⟨v2, hv, he, hx⟩ | h
   ·
    exact Or.inl ⟨v2, hv, he, hx.past (lo' := w.heap.size) hg9 (by omega) (by omega)⟩
   exact Or.inr h
  have HF := Lib.hid hF
  clear hF
  have hr2 := (KR.out w3 (hre3).old).2.2
  have x0 := hr2 0 (by simp)
  have x1 := hr2 1 (by simp)
  have x2 := hr2 2 (by simp)
  have x3 := hr2 3 (by simp)
  have x4 := hr2 4 (by simp)
  have x5 := hr2 5 (by simp)
  have x6 := hr2 6 (by simp)
  have x7 := hr2 7 (by simp)
  have x8 := hr2 8 (by simp)
  simp only [List.getElem?_cons_zero, List.getElem?_cons_succ, Nat.add_zero, Nat.add_assoc, Nat.reduceAdd] at x0 x1 x2 x3 x4 x5 x6 x7 x8
  clear hr2
  go_wp2_with fail
  refine (KC.out w3 hre3).mono ?_
  rintro e w5 ⟨k2, n2, s2', p2, er2, rfl, hr5, hd5⟩
  have HR5 := Lib.hid (HR3.out.trans hr5)
  have HD5 := Lib.hid hd5
  clear hr5 hd5 x0 x1 x2 x3 x4 x5 x6 x7 x8 hre3 a8'
  obtain ⟨⟨u0, u1, u2, u3⟩, f0, f1, f2, f3⟩ := KU.out w5 HR5.out
  have hl2 : w.heap.size + 1 < w5.heap.size := Nat.lt_of_lt_of_le hl1 (HR5.out).size
  go_wp2_with fail
  obtain ⟨w9, hw9⟩ : ∃ w9, (((w5.setCell ⟨w.heap.size + 1, 0, none⟩ (.int .i64 k2)).setCell ⟨w.heap.size + 1, 1, none⟩ (.int .i64 n2)).setCell ⟨w.heap.size + 1, 2, none⟩ (.string s2')).setCell ⟨w.heap.size + 1, 3, none⟩ (.pointer p2) = w9 := ⟨_, rfl⟩
  obtain ⟨⟨s0, s1', s2, s3⟩, hr9, hg9⟩ := set_end (O := w.heap.size + 1) HRL.out (Nat.le_succ _) ((Rnr.new HB.out HRL.out).trans HR5.out) hw9 u0 u1 u2 u3
  rw [hw9]
  have hl9 : w.heap.size + 1 < w9.heap.size := Nat.lt_of_lt_of_le hl2 hg9.size
  have b9 : Below w9.heap.size w9 w9 := (Below.refl w9.heap.size w9)
  have z0 := (b9.cell (p := ⟨w.heap.size + 1, 0, none⟩) hl9).trans s0
  have z1 := (b9.cell (p := ⟨w.heap.size + 1, 1, none⟩) hl9).trans s1'
  have z2 := (b9.cell (p := ⟨w.heap.size + 1, 2, none⟩) hl9).trans s2
  have z3 := (b9.cell (p := ⟨w.heap.size + 1, 3, none⟩) hl9).trans s3
  refine bodyPost_ret (v := .tuple #[.agg #[.int .i64 k2, .int .i64 n2, .string s2', .pointer p2], .pointer none, .int .i64 er2]) (by simp [results, Tryz.results54, go_sem, z0, z1, z2, z3]) rfl ?_
  have hsz := HSZ.out
  have hr10 := hr9.trans (Rnr.new b9 (Nat.lt_of_lt_of_le HRL.out hr9.size))
  refine ⟨_, _, _, _, er2, rfl, hr10, ?_⟩
  rw [evalX, HVA.out]
  simp only [HF.out, if_true]
  have hs3 := HS3.out
  rcases HD5.out with ⟨v2, hv, he, hx⟩ | h
  ·
   exact Or.inl ⟨v2, hv, he, hx.past (lo' := w.heap.size) hg9 (by omega) (by omega)⟩
  exact Or.inr h
 have hnb : (er == 0) = false := by simpa using hne
 have HVA := Lib.hid hva
 have HNE := Lib.hid hne
 clear hva hne a8'
 go_wp2_with fail
 obtain ⟨w9, hw9⟩ : ∃ w9, (((w1.setCell ⟨w.heap.size + 1, 0, none⟩ (.int .i64 0)).setCell ⟨w.heap.size + 1, 1, none⟩ (.int .i64 0)).setCell ⟨w.heap.size + 1, 2, none⟩ (.string ⟨#[]⟩)).setCell ⟨w.heap.size + 1, 3, none⟩ (.pointer none) = w9 := ⟨_, rfl⟩
 obtain ⟨⟨s0, s1', s2, s3⟩, hr9, hg9⟩ := set_end (O := w.heap.size + 1) HRL.out (Nat.le_succ _) ((Rnr.new HB.out HRL.out).trans HR1.out) hw9 u0 u1 u2 u3
 rw [hw9]
 have hl9 : w.heap.size + 1 < w9.heap.size := Nat.lt_of_lt_of_le hl2 hg9.size
 have b9 : Below w9.heap.size w9 (w9.alloc (.cells #[.int .i64 k1, .int .i64 n1, .string s1, .pointer p1] 98)) := ((Below.refl w9.heap.size w9).alloc (Nat.le_refl _) (.cells #[.int .i64 k1, .int .i64 n1, .string s1, .pointer p1] 98))
 have z0 := (b9.cell (p := ⟨w.heap.size + 1, 0, none⟩) hl9).trans s0
 have z1 := (b9.cell (p := ⟨w.heap.size + 1, 1, none⟩) hl9).trans s1'
 have z2 := (b9.cell (p := ⟨w.heap.size + 1, 2, none⟩) hl9).trans s2
 have z3 := (b9.cell (p := ⟨w.heap.size + 1, 3, none⟩) hl9).trans s3
 refine bodyPost_ret (v := .tuple #[.agg #[.int .i64 0, .int .i64 0, .string ⟨#[]⟩, .pointer none], .pointer none, .int .i64 er]) (by simp [results, Tryz.results54, go_sem, z0, z1, z2, z3]) rfl ?_
 have hsz := HSZ.out
 have hr10 := hr9.trans (Rnr.new b9 (Nat.lt_of_lt_of_le HRL.out hr9.size))
 exact ⟨_, _, _, _, er, rfl, hr10, Or.inr ⟨by rw [evalX, HVA.out], HNE.out⟩⟩
theorem meant_any {ol : List Int} : (n : Nat) -> ∀ x, countX x <= n -> MeantSays ol x
 | 0, x, h => by
  have h1 : 1 <= countX x := by
   cases x with
   | const d => cases d; rw [countX, countD]; omega
   | was i => rw [countX]; omega
   | ite a b c => rw [countX]; omega
   | prim s l => rw [countX]; omega
  omega
 | n + 1, x, h => by
  have ih : ∀ y, countX y < countX x -> MeantSays ol y := fun y hy => meant_any n y (by omega)
  cases x with
  | const d => exact meant_const d
  | was i => exact meant_was i
  | ite a b c => exact meant_ite (ih a (by rw [countX]; omega)) (ih b (by rw [countX]; omega)) (ih c (by rw [countX]; omega))
  | prim s l =>
   refine meant_prim (fun y hy => value_any (ih y ?_))
   obtain ⟨i, hi, rfl⟩ := List.mem_iff_getElem.1 hy
   have := countXs_nth l i hi
   rw [countX]
   omega
end Go.Proofs.YtfhbdlobhjegcaaGreatDoor
