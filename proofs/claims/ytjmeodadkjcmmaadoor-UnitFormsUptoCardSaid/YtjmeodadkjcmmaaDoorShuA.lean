import Derived.Test.YtjmeodadkjcmmaaDoorGRef
import Derived.Test.YtjmeodadkjcmmaaDoorFormA
import Derived.Shelf.Spec.SlicesGrow
import Derived.Ground.Names8Prog
namespace Go.Proofs.YtjmeodadkjcmmaaDoor
open Go.RowKit Go.ChangeShapes Go.WideShapes Go.Deep Go.ChangeAt Go.Shelf
set_option linter.unusedVariables false
set_option maxRecDepth 20000
theorem zb1.grown {w w' : World} {A : Option Addr} {len : Nat} {ss : List ByteArray} {row : Option Nat} (h : zb1 w A len ss) (hg : w.grownBy w' row) (hne : ∀ a, A = some a -> 0 < len -> row ≠ some a.block) : zb1 w' A len ss :=
 ⟨h.size, fun h0 => by
  obtain ⟨b, o, rfl, hl, hc⟩ := h.at_ h0
  refine ⟨b, o, rfl, Nat.lt_of_lt_of_le hl hg.size, fun i hi => ?_⟩
  have : w'.heap[b]? = w.heap[b]? := hg.block b hl (fun e => hne _ rfl h0 e.symm)
  rw [World.cell?_of_block (a := ⟨b, o + i, none⟩) this]
  exact hc i hi⟩
theorem zb1.lt {w : World} {A : Option Addr} {len : Nat} {ss : List ByteArray} (h : zb1 w A len ss) {a : Addr} (ha : A = some a) (h0 : 0 < len) : a.block < w.heap.size := by
 obtain ⟨b, o, rfl, hl, _⟩ := h.at_ h0
 cases ha
 exact hl
theorem Shp.At.grown {w w' : World} {x : Shp} {row : Option Nat} (h : x.At w) (hg : w.grownBy w' row) (hne : ∀ a, x.A = some a -> 0 < x.len -> row ≠ some a.block) : x.At w' :=
 ⟨h.cells, h.wide, h.strs.grown hg hne, h.each, h.le, h.cap_⟩
namespace Sh
def growE_ren : Go.Shelf.Ren := ⟨fun | 4 => 62 | n => n, fun | 22 => 24 | 25 => 53 | 3 => 3 | 4 => 4 | 9 => 9 | 20 => 20 | 0 => 0 | n => n, fun | n => n⟩
theorem growE : Go.Proofs.Lays8.n4 Tryd.prog growE_ren := {
 mixed := by kernel_rfl
 f4 := ⟨Tryd.f62.name, by decide, Tryd.func62.trans (congrArg some (by kernel_rfl))⟩
 t0 := Tryd.underlying0
 a0 := Tryd.isAgg0
 z0 := Tryd.sizeOf0
 v0 := Tryd.zeroValue0
 t3 := Tryd.underlying3
 a3 := Tryd.isAgg3
 z3 := Tryd.sizeOf3
 v3 := Tryd.zeroValue3
 t4 := Tryd.underlying4
 a4 := Tryd.isAgg4
 z4 := Tryd.sizeOf4
 v4 := Tryd.zeroValue4
 t9 := Tryd.underlying9
 a9 := Tryd.isAgg9
 z9 := Tryd.sizeOf9
 v9 := Tryd.zeroValue9
 t20 := Tryd.underlying20
 a20 := Tryd.isAgg20
 z20 := Tryd.sizeOf20
 v20 := Tryd.zeroValue20
 t22 := Tryd.underlying24
 a22 := Tryd.isAgg24
 z22 := Tryd.sizeOf24
 v22 := Tryd.zeroValue24 }
theorem infoShape : (Tryd.prog.info? 53).map (fun i => (i.zero, i.size, i.bytes)) = some (some (.agg #[.string ByteArray.empty, .slice none 0 0]), 2, 40) := by kernel_rfl
def cellsL (X : List Shp) : List Value := X.flatMap Shp.cells
theorem cellsL_append (X Y : List Shp) : cellsL (X ++ Y) = cellsL X ++ cellsL Y := List.flatMap_append
theorem cellsL_length : (X : List Shp) -> (cellsL X).length = X.length * 2
 | [] => rfl
 | x :: X => by
  have h := cellsL_length X
  unfold cellsL at h ⊢
  rw [List.flatMap_cons, List.length_append, h, List.length_cons]
  show 2 + _ = _
  omega
theorem cellsL_at : (X : List Shp) -> (i : Nat) -> (hi : i < X.length) -> (cellsL X)[i * 2]? = some (.string X[i].name) /\ (cellsL X)[i * 2 + 1]? = some (.slice X[i].A X[i].len X[i].cap)
 | x :: X, 0, _ => ⟨rfl, rfl⟩
 | x :: X, i + 1, hi => by
  have h := cellsL_at X i (by simpa using hi)
  have e : cellsL (x :: X) = [.string x.name, .slice x.A x.len x.cap] ++ cellsL X := rfl
  rw [e, List.getElem?_append_right (by simp; omega), List.getElem?_append_right (by simp; omega)]
  have e1 : (i + 1) * 2 - ([Value.string x.name, .slice x.A x.len x.cap]).length = i * 2 := by simp; omega
  have e2 : (i + 1) * 2 + 1 - ([Value.string x.name, .slice x.A x.len x.cap]).length = i * 2 + 1 := by simp; omega
  rw [e1, e2]
  simpa using h
theorem cellsL_one (X : List Shp) : ∀ u ∈ cellsL X, u.oneCell' = true := by
 intro u hu
 obtain ⟨x, _, hx⟩ := List.mem_flatMap.1 hu
 simp only [Shp.cells, List.mem_cons, List.not_mem_nil, or_false] at hx
 rcases hx with rfl | rfl <;> rfl
theorem cellsL_set : (X : List Shp) -> (i : Nat) -> (x : Shp) -> ((cellsL X).set (i * 2) (.string x.name)).set (i * 2 + 1) (.slice x.A x.len x.cap) = cellsL (X.set i x)
 | [], i, x => by simp [cellsL]
 | y :: X, 0, x => rfl
 | y :: X, i + 1, x => by
  have h := cellsL_set X i x
  have e : cellsL (y :: X) = .string y.name :: .slice y.A y.len y.cap :: cellsL X := rfl
  have e1 : (i + 1) * 2 = i * 2 + 1 + 1 := by omega
  rw [e, e1, List.set_cons_succ, List.set_cons_succ, List.set_cons_succ, List.set_cons_succ, h]
  rfl
structure OutAt (w0 w : World) (v : Value) (X : List Shp) : Prop where
 row : w.ownsRow w0.heap.size 53 2 v X.length (cellsL X)
 each : ∀ x ∈ X, x.At w
 apart : ∀ x ∈ X, ∀ a, x.A = some a -> 0 < x.len -> v.ownBlock ≠ some a.block
 below : Below w0.heap.size w0 w
theorem OutAt.start (w : World) : OutAt w w (.slice none 0 0) [] := ⟨World.ownsRow_nil _ _ _ _, by simp, by simp, Below.refl _ _⟩
theorem OutAt.later {w0 w w' : World} {v : Value} {X : List Shp} (h : OutAt w0 w v X) (hb : Below w.heap.size w w') : OutAt w0 w' v X :=
 ⟨h.row.kept (zb hb none) (by cases hv : v.ownBlock <;> simp), fun x hx => ShapeAt.below (h.each x hx) hb, h.apart, h.below.trans (hb.mono h.below.size)⟩
theorem OutAt.form {w0 w : World} {v : Value} {X : List Shp} (h : OutAt w0 w v X) : ∃ A cap, v = .slice A X.length cap /\ X.length <= cap /\ cap <= maxLen /\ zz w A X.length X /\ (0 < X.length -> ∃ g, A = some ⟨g, 0, none⟩ /\ w0.heap.size <= g) := by
 rcases h.row.2 with ⟨rfl, hn⟩ | ⟨g, cap, cur, hv, hg, hh, h1, h2, _⟩
 ·
  have hX : X = [] := List.length_eq_zero_iff.1 hn
  subst hX
  exact ⟨none, 0, rfl, by simp, by unfold maxLen; omega, ⟨rfl, fun h => absurd h (by simp), by simp⟩, fun h => absurd h (by simp)⟩
 ·
  have hrow := h.row
  rw [hv] at hrow
  refine ⟨some ⟨g, 0, none⟩, cap, hv, h1, h2, ⟨rfl, fun h0 => ⟨g, 0, rfl, (Array.getElem?_eq_some_iff.1 hh).1, fun i hi => ?_⟩, h.each⟩, fun _ => ⟨g, rfl, hg⟩⟩
  have hc := cellsL_at X i hi
  have c0 := hrow.cellAt (i * 2) (by omega)
  have c1 := hrow.cellAt (i * 2 + 1) (by omega)
  rw [Nat.zero_add]
  exact ⟨c0.trans hc.1, c1.trans hc.2⟩
theorem OutAt.free {w0 w : World} {v : Value} {X : List Shp} (h : OutAt w0 w v X) {k : Nat} (hk : w.heap.size <= k) : v.ownBlock ≠ some k := by
 intro e
 have := (h.row.lt k e).2
 omega
theorem wpList_out {w0 w : World} {ops : Array Oper} {rest : List Oper} {o : Oper} {act : Act} {Q : Exit -> Act -> World -> Prop} (hgd : o.guard = none) (s y : Operand)
  (ho : o.op = .call { callee := .builtin .append, args := #[s, y], argTypes := #[24, 24] }) {v : Value} {X : List Shp} (hO : OutAt w0 w v X) (x : Shp) (hx : x.At w) (hap : ∀ a, x.A = some a -> 0 < x.len -> v.ownBlock ≠ some a.block)
  (hs : act.eval s = v) (hy : act.eval y = .slice (some ⟨w.heap.size, 0, none⟩) 1 1) (hb : X.length < 1099511627776)
  (h : ∀ v' w', OutAt w0 w' v' (X ++ [x]) -> wpList Tryd.prog ops Q rest (act.put o.dst v') w') : wpList Tryd.prog ops Q (o :: rest) act (w.alloc (.cells #[.string x.name, .slice x.A x.len x.cap] 53)) := by
 obtain ⟨i0, hi, hz0, hz1, hz2⟩ := info_parts infoShape
 have hA := hO.later ((Below.refl w.heap.size w).alloc (Nat.le_refl _) (.cells #[.string x.name, .slice x.A x.len x.cap] 53))
 have hxA : x.At (w.alloc (.cells #[.string x.name, .slice x.A x.len x.cap] 53)) := ShapeAt.below hx ((Below.refl _ _).alloc (Nat.le_refl _) _)
 refine wpList_append_own_at _ hgd s y 24 ho w0.heap.size 53 i0 _ 2 40 Tryd.underlying24 hi hz0 hz1 hz2 rfl (by decide) v X.length (cellsL X) hs hA.row
  ⟨w.heap.size, 0, none⟩ 1 1 (cellsL [x]) hy (by rfl) (cells_lit _ _ rfl) (cellsL_one _) (by unfold maxLen; omega) (by omega) hA.below.size ?_
 intro v' w' h1 h2 _ h4
 have hfrom : ∀ k, v.ownBlock = some k -> w0.heap.size <= k := fun k hk => (hO.row.lt k hk).1
 refine h v' w' ⟨?_, ?_, ?_, hA.below.grown h2 (Nat.le_trans hA.below.size (Nat.le_refl _)) hfrom⟩
 ·
  rw [cellsL_append, List.length_append]; exact h1
 ·
  intro z hz
  rcases List.mem_append.1 hz with hz | hz
  ·
   exact (hA.each z hz).grown h2 (hO.apart z hz)
  obtain rfl : z = x := by simpa using hz
  exact hxA.grown h2 hap
 have hlt : ∀ z : Shp, z.At w -> ∀ a, z.A = some a -> 0 < z.len -> a.block < w.heap.size := fun z hz a ha h0 => hz.strs.lt ha h0
 intro z hz a ha h0
 have hz2 : z.At w /\ (v.ownBlock ≠ some a.block) := by
  rcases List.mem_append.1 hz with hz | hz
  ·
   exact ⟨hO.each z hz, hO.apart z hz a ha h0⟩
  obtain rfl : z = x := by simpa using hz
  exact ⟨hx, hap a ha h0⟩
 rcases h4 with h4 | h4
 ·
  rw [h4]; exact hz2.2
 rw [h4]
 intro e
 have h5 := hlt z hz2.1 a ha h0
 simp at e
 omega
theorem OutAt.put {w0 w : World} {g cap : Nat} {X : List Shp} (hO : OutAt w0 w (.slice (some ⟨g, 0, none⟩) X.length cap) X) (i : Nat) (x : Shp) (hx : x.At w) (hap : ∀ a, x.A = some a -> 0 < x.len -> g ≠ a.block) :
  OutAt w0 ((w.setCell ⟨g, i * 2, none⟩ (.string x.name)).setCell ⟨g, i * 2 + 1, none⟩ (.slice x.A x.len x.cap)) (.slice (some ⟨g, 0, none⟩) (X.set i x).length cap) (X.set i x) := by
 obtain ⟨h1, g1⟩ := hO.row.stored (i * 2) (.string x.name)
 obtain ⟨h2, g2⟩ := h1.stored (i * 2 + 1) (.slice x.A x.len x.cap)
 rw [cellsL_set] at h2
 have hg0 : w0.heap.size <= g := (hO.row.lt g rfl).1
 have hbl := (hO.below.setCell (p := ⟨g, i * 2, none⟩) hg0 (.string x.name)).setCell (p := ⟨g, i * 2 + 1, none⟩) hg0 (.slice x.A x.len x.cap)
 refine ⟨by rw [List.length_set]; exact h2, ?_, ?_, hbl⟩
 ·
  intro z hz
  rcases List.mem_or_eq_of_mem_set hz with hz | rfl
  ·
   have hne := hO.apart z hz
   exact ((hO.each z hz).grown g1 hne).grown g2 hne
  have hne : ∀ a, z.A = some a -> 0 < z.len -> some g ≠ some a.block := fun a ha h0 e => hap a ha h0 (Option.some.inj e)
  exact (hx.grown g1 hne).grown g2 hne
 intro z hz a ha h0
 rcases List.mem_or_eq_of_mem_set hz with hz | rfl
 ·
  exact hO.apart z hz a ha h0
 intro e
 exact hap a ha h0 (Option.some.inj e)
def mergeC (Y : List (ByteArray × List ByteArray)) (y : ByteArray × List ByteArray) : List (ByteArray × List ByteArray) :=
 if idxL (Y.map (·.1)) y.1 < 0 then Y ++ [y] else Y.set (idxL (Y.map (·.1)) y.1).toNat y
def behindC (L : List (ByteArray × List ByteArray)) : List (ByteArray × List ByteArray) := L.foldl mergeC []
theorem names_sh (X : List Shp) : (X.map Shp.sh).map (·.1) = names X := by rw [List.map_map]; rfl
theorem merge_app {X : List Shp} {x : Shp} (h : idxL (names X) x.name < 0) : mergeC (X.map Shp.sh) x.sh = (X ++ [x]).map Shp.sh := by
 unfold mergeC
 rw [names_sh]
 rw [if_pos (show idxL (names X) x.sh.1 < 0 from h), List.map_append]
 rfl
theorem merge_set {X : List Shp} {x : Shp} {k : Nat} (h : idxL (names X) x.name = k) : mergeC (X.map Shp.sh) x.sh = (X.set k x).map Shp.sh := by
 unfold mergeC
 rw [names_sh]
 have h' : idxL (names X) x.sh.1 = k := h
 rw [h', if_neg (by omega), Int.toNat_natCast, List.map_set]
theorem mergeC_len (Y : List (ByteArray × List ByteArray)) (y : ByteArray × List ByteArray) : (mergeC Y y).length <= Y.length + 1 := by
 unfold mergeC
 split
 ·
  simp
 simp
theorem foldl_len : (L Y : List (ByteArray × List ByteArray)) -> (L.foldl mergeC Y).length <= Y.length + L.length
 | [], Y => by simp
 | y :: L, Y => by
  have h1 := foldl_len L (mergeC Y y)
  have h2 := mergeC_len Y y
  simp only [List.foldl_cons, List.length_cons]
  omega
theorem behind_len (L : List (ByteArray × List ByteArray)) : (behindC L).length <= L.length := by
 have := foldl_len L []
 simpa [behindC] using this
theorem idxL_lt {ss : List ByteArray} {s : ByteArray} (h : ¬ idxL ss s < 0) : ∃ k : Nat, idxL ss s = k /\ k < ss.length := by
 unfold idxL at h ⊢
 by_cases hi : inL ss s = true
 ·
  rw [if_pos hi]
  refine ⟨_, rfl, ?_⟩
  rw [List.findIdx_lt_length]
  obtain ⟨x, hx, he⟩ := List.any_eq_true.1 hi
  exact ⟨x, hx, he⟩
 rw [if_neg hi] at h
 exact absurd h (by simp)
theorem clone_any (A : Option Addr) (len cap : Nat) (ss : List ByteArray) (w : World) (hs : zb1 w A len ss) (hl : len <= 1099511627776) :
  Calls Tryd.prog 10 #[.slice A len cap] w fun e w' => ∃ v, e = .returned v /\ w'.ownsRow w.heap.size 9 1 v len (ss.map Value.string) /\ Below w.heap.size w w' := by
 rcases Nat.eq_zero_or_pos len with h0 | h0
 ·
  subst h0
  have hss : ss = [] := List.length_eq_zero_iff.1 hs.size
  subst hss
  cases A with
  | none =>
   refine (Tryd.slices_Clone_string_nil 0 cap w).mono ?_
   rintro e w' ⟨rfl, rfl⟩
   exact ⟨_, rfl, World.ownsRow_nil _ _ _ _, Below.refl _ _⟩
  | some a =>
   refine (Tryd.slices_Clone_string_zero a cap w).mono ?_
   rintro e w' ⟨v, rfl, h1, _, h2⟩
   exact ⟨v, rfl, h1, h2⟩
 obtain ⟨b, o, rfl, hb, hrow⟩ := hs.at_ h0
 have hsz := hs.size
 refine (Tryd.slices_Clone_string b o len cap ss w (by omega) (by omega) (fun j hj => by rw [hrow j hj]; simp [hj])).mono ?_
 rintro e w' ⟨v, rfl, h1, _, h2⟩
 rw [List.take_of_length_le (by omega)] at h1
 exact ⟨v, rfl, h1, h2⟩
theorem run_append_zero {w : World} {P : Program} (base : Nat) (t ty e : TypeId) (i : TypeInfo) (size : Nat) (ht : P.underlying t = some (.slice e)) (hi : P.info? e = some i)
  (v : Value) (n : Nat) (xs : List Value) (hown : w.ownsRow base e size v n xs) (A : Option Addr) (c : Nat) : (Builtin.append_ #[t, t] ty #[v, .slice A 0 c]).run P w = .ok v w := by
 rcases hown.2 with ⟨rfl, rfl⟩ | ⟨g, cap, cur, rfl, hg, hh, hr⟩
 ·
  cases A <;> simp [Builtin.append_, run_underlying ht, sizeOf, typeInfo, hi, Builtin.lenOf, Builtin.firstCells, loadCells, loadCellsFrom]
 cases A <;> simp [Builtin.append_, run_underlying ht, sizeOf, typeInfo, hi, Builtin.lenOf, Builtin.firstCells, loadCells, loadCellsFrom, hr.1, storeCells]
set_option maxHeartbeats 400000 in
theorem sameName_any (x : Shp) (n : ByteArray) (b : Nat) (w : World) (hc : w.cell? ⟨b, 0, none⟩ = some (.string n)) (hb : b < w.heap.size) :
  Calls Tryd.prog 43 #[.agg #[.string x.name, .slice x.A x.len x.cap], .pointer (some ⟨b, 0, none⟩)] w fun e w' => e = .returned (.bool (x.name.toList == n.toList)) /\ Below w.heap.size w w' := by
 have hc' : ∀ o1, (w.alloc o1).cell? ⟨b, 0, none⟩ = some (.string n) := fun o1 => (World.cell?_alloc_lt w o1 ⟨b, 0, none⟩ hb).trans hc
 go_enter Tryd.func43, Tryd.ntmps43
 go_wp2_with fail
 go_ret
 exact ⟨rfl, (Below.refl _ _).alloc (Nat.le_refl _) _⟩
set_option maxHeartbeats 1000000 in
theorem indexFunc_any (n : ByteArray) (b0 : Nat) (A : Option Addr) (len cap : Nat) (L : List Shp) (w : World) (hcap : cap <= maxLen) (hl : len <= cap) (hA : zz w A len L) (hc : w.cell? ⟨b0, 0, none⟩ = some (.string n)) (hb0 : b0 < w.heap.size) :
  Calls Tryd.prog 42 #[.slice A len cap, .func (.func 43) #[] #[.pointer (some ⟨b0, 0, none⟩)]] w fun e w' => e = .returned (.int .i64 (idxL (names L) n)) /\ Below w.heap.size w w' := by
 have hlen : len <= 9223372036854775807 := by unfold maxLen at hcap; omega
 have HA := Lib.hid hA
 have HC := Lib.hid hc
 clear hA hc
 go_enter Tryd.func42, Tryd.ntmps42
 go_wp2_with fail
 go_loopw [8] (fun i wr => ∃ k : Nat, k <= len /\ i = .int .i64 k /\ Below w.heap.size w wr /\ ∀ j, j < k -> (hj : j < (names L).length) -> ((names L)[j].toList == n.toList) = false) (fun i _ => len - (intOf i).toNat)
 case atStart => exact ⟨0, by omega, rfl, Below.refl _ _, fun j h => absurd h (by omega)⟩
 case round =>
  obtain ⟨k, hk, rfl, hb, hall⟩ := hrel
  have HALL := Lib.hid hall
  have HB := Lib.hid hb
  clear hall hb
  by_cases hlt : k < len
  ·
   obtain ⟨b, o, rfl, hbw, hrow⟩ := HA.out.at_ (by omega)
   have hks : k < L.length := by rw [HA.out.size]; exact hlt
   have hkn : k < (names L).length := by simpa [names] using hks
   have hnk : (names L)[k] = L[k].name := by simp [names]
   have c0 : wr.cell? ⟨b, o + k * 2, none⟩ = some (.string L[k].name) := (HB.out.cell (p := ⟨b, o + k * 2, none⟩) hbw).trans (hrow k hks).1
   have c1 : wr.cell? ⟨b, o + k * 2 + 1, none⟩ = some (.slice L[k].A L[k].len L[k].cap) := (HB.out.cell (p := ⟨b, o + k * 2 + 1, none⟩) hbw).trans (hrow k hks).2
   have HNK := Lib.hid hnk
   clear hrow hnk
   have hsz := HB.out.size
   cases he : (L[k].name.toList == n.toList)
   all_goals
    have HE := Lib.hid he
    clear he
    go_wp2_with fail
    refine (sameName_any L[k] n b0 wr ((HB.out.cell (p := ⟨b0, 0, none⟩) hb0).trans HC.out) (Nat.lt_of_lt_of_le hb0 hsz)).mono ?_
    rintro e w1 ⟨rfl, hb1⟩
    rw [HE.out]
    have HB1 := Lib.hid (HB.out.trans (hb1.mono hsz))
    clear hb1
   ·
    go_wp2_with fail
    go_roundw
    case rel =>
     refine ⟨k + 1, by omega, by go_num, HB1.out, fun j hj hj' => ?_⟩
     by_cases hjk : j = k
     ·
      subst hjk; rw [HNK.out]; exact HE.out
     exact HALL.out j (by omega) hj'
    case measure => simp [intOf]; omega
   go_wp2_with fail
   go_ret
   exact ⟨ret_i (idxL_at hkn (by rw [HNK.out]; exact HE.out) HALL.out).symm, HB1.out⟩
  obtain rfl : k = len := by omega
  go_wp2_with fail
  go_ret
  exact ⟨ret_i (idxL_no (fun j hj => HALL.out j (by rw [<- HA.out.size]; simpa [names] using hj) hj)).symm, HB.out⟩
theorem grow_any (n : Nat) (w : World) (hn : n <= 1099511627776) :
  Calls Tryd.prog 62 #[.slice none 0 0, .int .i64 n] w fun e w' => ∃ v, e = .returned v /\ w'.ownsRow w.heap.size 53 2 v 0 [] /\ Below w.heap.size w w' := by
 obtain ⟨i0, hi, hz0, hz1, hz2⟩ := info_parts infoShape
 by_cases h0 : n = 0
 ·
  subst h0
  refine (Any8.slices_Grow_room growE none 0 0 0 w (by omega) (by omega) (by omega) (by omega)).mono ?_
  rintro e w' ⟨rfl, rfl⟩
  exact ⟨_, rfl, World.ownsRow_nil _ _ _ _, Below.refl _ _⟩
 have h := Any8.slices_Grow_grow growE i0 _ hi hz0 (by rw [hz1]; decide) none 0 0 n [] w (by omega) (by omega) (by rw [hz2]; omega) (by omega) (by simp) (fun _ => rfl) (fun a ha => by cases ha)
 refine Calls.mono h ?_
 rintro e w' ⟨rfl, rfl⟩
 have hge := grownCap_ge w (0 + n) 0 53
 have hcm : grownCap w (0 + n) 0 53 <= maxLen := grownCap_le_maxLen w (0 + n) 0 _ (by unfold maxLen; omega)
 refine ⟨_, rfl, ?_, ?_⟩
 ·
  exact World.ownsRow_made (w := w.drew) _ _ (Nat.le_refl _) hcm (by
   simp only [Array.size_append, List.size_toArray, List.length_nil, size_zeroCells]
   have hz : (Value.agg #[.string ByteArray.empty, .slice none 0 0]).cells.size = 2 := rfl
   rw [hz]
   show 0 + (0 + n - 0) * 2 + (grownCap w (0 + n) 0 (growE_ren.t 25) - (0 + n)) * 2 = grownCap w (0 + n) 0 (growE_ren.t 25) * 2
   have : 0 + n <= grownCap w (0 + n) 0 (growE_ren.t 25) := hge
   omega)
 exact ((Below.refl _ _).drew).alloc (Nat.le_refl _) _
theorem wpList_shapes {w : World} {ops : Array Oper} {rest : List Oper} {o : Oper} {act : Act} {Q : Exit -> Act -> World -> Prop} (hgd : o.guard = none) (s x : Operand)
  (ho : o.op = .call { callee := .builtin .append, args := #[s, x], argTypes := #[24, 24] })
  (base : Nat) (v : Value) (n : Nat) (xs : List Value) (hs : act.eval s = v) (hown : w.ownsRow base 53 2 v n xs)
  (A : Option Addr) (m c : Nat) (X : List Shp) (hx : act.eval x = .slice A m c) (hst : zz w A m X)
  (hnm : n + m <= 1099511627776) (hbase : base <= w.heap.size)
  (h : ∀ v' w', w'.ownsRow base 53 2 v' (n + m) (xs ++ cellsL X) -> Below base w w' -> wpList Tryd.prog ops Q rest (act.put o.dst v') w') : wpList Tryd.prog ops Q (o :: rest) act w := by
 obtain ⟨i0, hi, hz0, hz1, hz2⟩ := info_parts infoShape
 rcases Nat.eq_zero_or_pos m with h0 | h0
 ·
  subst h0
  have hX : X = [] := List.length_eq_zero_iff.1 hst.size
  subst hX
  refine wpList_plain hgd fun K hK => ?_
  have hr := run_append_zero (P := Tryd.prog) base 24 o.type 53 i0 2 Tryd.underlying24 hi v n xs hown A c
  unfold Oper.wp execOp
  simp only [ho, resolve, invoke, builtin, Sem.run_bind, Sem.run_pure, Result.andThen_ok, List.map_toArray, List.map_cons, List.map_nil, hs, hx, hr]
  exact hK _ _ (h v w (by simpa [cellsL] using hown) (Below.refl _ _))
 obtain ⟨b, o', rfl, hb, hrow⟩ := hst.at_ h0
 refine wpList_append_own _ hgd s x 24 ho base 53 i0 _ 2 40 Tryd.underlying24 hi hz0 hz1 hz2 rfl (by decide) v n xs hs hown ⟨b, o', none⟩ m c (cellsL X) hx (by rw [cellsL_length, hst.size]) ?_ (cellsL_one _) (by unfold maxLen; omega) (by omega) hbase fun v' w' h1 h2 _ => h v' w' h1 ((Below.refl _ _).grown h2 hbase (zv hown))
 intro j u hj
 have hjl : j < X.length * 2 := by
  have := (List.getElem?_eq_some_iff.1 hj).1
  rwa [cellsL_length] at this
 have h2 : (Addr.add ⟨b, o', none⟩ j) = ⟨b, o' + j, none⟩ := by unfold Addr.add; by_cases h0 : j = 0 <;> simp [h0]
 rw [h2]
 obtain ⟨i, hji⟩ : ∃ i, j = i * 2 \/ j = i * 2 + 1 := ⟨j / 2, by omega⟩
 rcases hji with rfl | rfl
 ·
  have hi2 : i < X.length := by omega
  rw [(cellsL_at X i hi2).1] at hj
  rw [<- hj]
  exact (hrow i hi2).1
 have hi2 : i < X.length := by omega
 rw [(cellsL_at X i hi2).2] at hj
 rw [<- hj, <- Nat.add_assoc]
 exact (hrow i hi2).2
theorem row_shapes {w : World} {base : Nat} {v : Value} {X : List Shp} {n : Nat} (hn : X.length = n) (h : w.ownsRow base 53 2 v n (cellsL X)) (he : ∀ x ∈ X, x.At w) :
  ∃ A cap, v = .slice A n cap /\ n <= cap /\ cap <= maxLen /\ zz w A n X := by
 subst hn
 rcases h.2 with ⟨rfl, hn⟩ | ⟨g, cap, cur, hv, hg, hh, h1, h2, _⟩
 ·
  have hX : X = [] := List.length_eq_zero_iff.1 hn
  subst hX
  exact ⟨none, 0, rfl, by simp, by unfold maxLen; omega, ⟨rfl, fun h => absurd h (by simp), by simp⟩⟩
 ·
  rw [hv] at h
  refine ⟨some ⟨g, 0, none⟩, cap, hv, h1, h2, ⟨rfl, fun h0 => ⟨g, 0, rfl, (Array.getElem?_eq_some_iff.1 hh).1, fun i hi => ?_⟩, he⟩⟩
  have hc := cellsL_at X i hi
  have c0 := h.cellAt (i * 2) (by omega)
  have c1 := h.cellAt (i * 2 + 1) (by omega)
  rw [Nat.zero_add]
  exact ⟨c0.trans hc.1, c1.trans hc.2⟩
set_option maxHeartbeats 2000000 in
theorem concat_any (A1 A2 : Option Addr) (n1 c1 n2 c2 B : Nat) (X1 X2 : List Shp) (w : World) (hB1 : w.cell? ⟨B, 0, none⟩ = some (.slice A1 n1 c1)) (hB2 : w.cell? ⟨B, 1, none⟩ = some (.slice A2 n2 c2))
  (h1 : zz w A1 n1 X1) (h2 : zz w A2 n2 X2) (hn : n1 + n2 <= 1099511627776) :
  Calls Tryd.prog 41 #[.slice (some ⟨B, 0, none⟩) 2 2] w fun e w' => ∃ A cap, e = .returned (.slice A (n1 + n2) cap) /\ n1 + n2 <= cap /\ cap <= maxLen /\ zz w' A (n1 + n2) (X1 ++ X2) /\ Below w.heap.size w w' := by
 have hBl : B < w.heap.size := World.block_lt_of_cell? w _ hB1
 have H1 := Lib.hid h1
 have H2 := Lib.hid h2
 clear h1 h2
 go_enter Tryd.func41, Tryd.ntmps41
 go_wp2_with fail
 go_loop [3, 11] (fun sz i => (sz = .int .i64 0 /\ i = .int .i64 0) \/ (sz = .int .i64 n1 /\ i = .int .i64 1) \/ (sz = .int .i64 ((n1 : Int) + n2) /\ i = .int .i64 2)) (fun _ i => 2 - (intOf i).toNat)
 case atStart => exact Or.inl ⟨rfl, rfl⟩
 rcases hrel with ⟨rfl, rfl⟩ | ⟨rfl, rfl⟩ | ⟨rfl, rfl⟩
 ·
  go_wp2_with fail
  go_round
  case rel => exact Or.inr (Or.inl ⟨by go_num, by go_num⟩)
  case measure => simp [intOf]
 ·
  go_wp2_with fail
  go_round
  case rel => exact Or.inr (Or.inr ⟨by go_num, by go_num⟩)
  case measure => simp [intOf]
 go_wp2_with fail
 refine (show Calls _ _ _ _ _ from by have h := grow_any (n1 + n2) w hn; rw [Int.natCast_add] at h; exact h).mono ?_
 rintro e w1 ⟨v0, rfl, hown, hb1⟩
 have HO := Lib.hid hown
 have HB := Lib.hid hb1
 have x1 : w1.cell? ⟨B, 0, none⟩ = some (.slice A1 n1 c1) := (hb1.cell (p := ⟨B, 0, none⟩) hBl).trans hB1
 have x2 : w1.cell? ⟨B, 1, none⟩ = some (.slice A2 n2 c2) := (hb1.cell (p := ⟨B, 1, none⟩) hBl).trans hB2
 clear hown hb1
 go_wp2_with fail
 go_loopg [6, 27] 2 (fun g v i wr => Below w.heap.size w wr /\ ((g = 2 /\ i = .int .i64 0 /\ wr.ownsRow w.heap.size 53 2 v 0 []) \/ (g = 1 /\ i = .int .i64 1 /\ wr.ownsRow w.heap.size 53 2 v n1 (cellsL X1)) \/ (g = 0 /\ i = .int .i64 2 /\ wr.ownsRow w.heap.size 53 2 v (n1 + n2) (cellsL X1 ++ cellsL X2))))
 case atStart => exact ⟨HB.out, Or.inl ⟨rfl, rfl, HO.out⟩⟩
 obtain ⟨hb, hrel⟩ := hrel
 have HBR := Lib.hid hb
 have y1 : wr.cell? ⟨B, 0, none⟩ = some (.slice A1 n1 c1) := (hb.cell (p := ⟨B, 0, none⟩) hBl).trans hB1
 have y2 : wr.cell? ⟨B, 1, none⟩ = some (.slice A2 n2 c2) := (hb.cell (p := ⟨B, 1, none⟩) hBl).trans hB2
 clear hb
 rcases hrel with ⟨hg, rfl, ho⟩ | ⟨hg, rfl, ho⟩ | ⟨hg, rfl, ho⟩
 ·
  have HG := Lib.hid hg
  have HO2 := Lib.hid ho
  clear hg ho
  go_wp2_with (at_builtin; refine wpList_shapes rfl (.tmp 31) (.tmp 32) rfl w.heap.size _ 0 [] rfl HO2.out A1 n1 c1 X1 rfl (H1.out.below HBR.out) (by omega) HBR.out.size ?_; intro v' w' h3 h4; have HO3 := Lib.hid h3; have HB3 := Lib.hid (HBR.out.trans h4); clear h3 h4)
  go_roundg 1
  case measure => have := HG.out; omega
  case rel => exact ⟨HB3.out, Or.inr (Or.inl ⟨rfl, by go_num, by have h := HO3.out; simpa using h⟩)⟩
 ·
  have HG := Lib.hid hg
  have HO2 := Lib.hid ho
  clear hg ho
  go_wp2_with (at_builtin; refine wpList_shapes rfl (.tmp 31) (.tmp 32) rfl w.heap.size _ n1 (cellsL X1) rfl HO2.out A2 n2 c2 X2 rfl (H2.out.below HBR.out) hn HBR.out.size ?_; intro v' w' h3 h4; have HO3 := Lib.hid h3; have HB3 := Lib.hid (HBR.out.trans h4); clear h3 h4)
  go_roundg 0
  case measure => have := HG.out; omega
  case rel => exact ⟨HB3.out, Or.inr (Or.inr ⟨rfl, by go_num, HO3.out⟩)⟩
 rw [<- cellsL_append] at ho
 obtain ⟨A, cap, rfl, hc1, hc2, hS⟩ := row_shapes (by rw [List.length_append, H1.out.size, H2.out.size]) ho (fun x hx => by
  rcases List.mem_append.1 hx with hx | hx
  ·
   exact ShapeAt.below (H1.out.each x hx) HBR.out
  exact ShapeAt.below (H2.out.each x hx) HBR.out)
 have HS := Lib.hid hS
 clear ho hS hg
 go_wp2_with fail
 go_ret
 exact ⟨A, cap, rfl, hc1, hc2, HS.out, HBR.out⟩
end Sh
end Go.Proofs.YtjmeodadkjcmmaaDoor
