import Derived.Test.YtfhbdlobhjegcaaGreatDoorGQdp
namespace Go.Proofs.YtfhbdlobhjegcaaGreatDoor
open Go.RowKit Go.ChangeShapes Go.WideShapes Go.Deep Go.ChangeAt
set_option linter.unusedVariables false
set_option maxRecDepth 20000
structure InsAt (w : World) (A : Option Addr) (n c : Nat) (C : List IV) : Prop where
 size : C.length = n
 le : n <= c
 cap_ : c <= maxLen
 at_ : 0 < n -> ∃ b o, A = some ⟨b, o, none⟩ /\ b < w.heap.size /\ ∀ i, (h : i < C.length) -> RowAt w b (o + i * 8) C[i].cells
theorem InsAt.below {w w' : World} {A : Option Addr} {n c : Nat} {C : List IV} (h : InsAt w A n c C) (hb : Below w.heap.size w w') : InsAt w' A n c C :=
 ⟨h.size, h.le, h.cap_, fun h0 => by
  obtain ⟨b, o, hA, hl, hc⟩ := h.at_ h0
  exact ⟨b, o, hA, Nat.lt_of_lt_of_le hl hb.size, fun i hi => (hc i hi).below hb hl⟩⟩
theorem InsAt.nth {w : World} {A : Option Addr} {n c : Nat} {C : List IV} (h : InsAt w A n c C) {i : Nat} {x : IV} (hx : C[i]? = some x) :
  ∃ b o, A = some ⟨b, o, none⟩ /\ b < w.heap.size /\ i < n /\ w.cell? ⟨b, o + i * 8, none⟩ = some (.int .i64 x.op) /\ w.cell? ⟨b, o + i * 8 + 1, none⟩ = some (.int .i64 x.a) /\ w.cell? ⟨b, o + i * 8 + 2, none⟩ = some (.int .i64 0) /\ w.cell? ⟨b, o + i * 8 + 3, none⟩ = some (.string x.s) /\ w.cell? ⟨b, o + i * 8 + 4, none⟩ = some (.string ⟨#[]⟩) ∧
   w.cell? ⟨b, o + i * 8 + 5, none⟩ = some (.int .i64 x.w.k) /\ w.cell? ⟨b, o + i * 8 + 6, none⟩ = some (.int .i64 x.w.n) /\ w.cell? ⟨b, o + i * 8 + 7, none⟩ = some (.string x.w.s) := by
 obtain ⟨hi, rfl⟩ := List.getElem?_eq_some_iff.1 hx
 have hl : i < n := by rw [<- h.size]; exact hi
 obtain ⟨b, o, hA, hb, hc⟩ := h.at_ (Nat.lt_of_le_of_lt (Nat.zero_le _) hl)
 have hr := hc i hi
 have hcl : C[i].cells.length = 8 := rfl
 exact ⟨b, o, hA, hb, hl, hr 0 (by rw [hcl]; decide), hr 1 (by rw [hcl]; decide), hr 2 (by rw [hcl]; decide), hr 3 (by rw [hcl]; decide), hr 4 (by rw [hcl]; decide), hr 5 (by rw [hcl]; decide), hr 6 (by rw [hcl]; decide), hr 7 (by rw [hcl]; decide)⟩
theorem made_set (w : World) (z u : Value) (n : Nat) (e : TypeId) (hn : 0 < n) (j : Nat) (hj : j < n) : (w.alloc (.cells ((madeCells #[z] n).setIfInBounds 0 u) e)).cell? ⟨w.heap.size, j, none⟩ = some (if j = 0 then u else z) := by
 have hs : (madeCells #[z] n).size = n := size_madeCells _ _
 rw [za]
 by_cases h0 : j = 0
 ·
  subst h0
  rw [if_pos rfl, Array.getElem?_setIfInBounds_self_of_lt (by omega)]
 rw [if_neg h0, Array.getElem?_setIfInBounds_ne (Ne.symm h0)]
 have h1 := made_one w z n e j hj
 rwa [za] at h1
def kitI : Kit Int where
 k := 1
 cells x := [.int .i64 x]
 len x := rfl
 one x u hu := by
  simp only [List.mem_cons, List.not_mem_nil, or_false] at hu
  rw [hu]
  rfl
 ok w x := True
 uses x b := False
 lt w x b h hb := hb.elim
 kept w w' x row h hg hn := trivial
structure IntsAt (w : World) (A : Option Addr) (len cap : Nat) (xs : List Int) : Prop where
 size : xs.length = len
 le : len <= cap
 cap_ : cap <= maxLen
 at_ : 0 < len -> ∃ b o, A = some ⟨b, o, none⟩ /\ b < w.heap.size /\ ∀ i, (h : i < xs.length) -> w.cell? ⟨b, o + i, none⟩ = some (.int .i64 xs[i])
theorem IntsAt.grown {w w' : World} {A : Option Addr} {len cap : Nat} {xs : List Int} {g : Nat} (h : IntsAt w A len cap xs) (hA : ∀ a, A = some a -> g < a.block) (hg : w.grownBy w' (some g)) : IntsAt w' A len cap xs :=
 ⟨h.size, h.le, h.cap_, fun h0 => by
  obtain ⟨b, o, rfl, hl, hc⟩ := h.at_ h0
  have hgb := hA _ rfl
  have hb : w'.heap[b]? = w.heap[b]? := hg.block b hl (fun e => by have := Option.some.inj e; simp at hgb; omega)
  exact ⟨b, o, rfl, Nat.lt_of_lt_of_le hl hg.size, fun i hi => by rw [World.cell?_of_block (a := ⟨b, _, none⟩) hb]; exact hc i hi⟩⟩
theorem OwnAt.ints {ty : TypeId} {base : Nat} {w : World} {v : Value} {X : List Int} (h : OwnAt kitI ty base w v X) : ∃ A cap, v = .slice A X.length cap /\ IntsAt w A X.length cap X /\ ∀ a, A = some a -> base <= a.block := by
 obtain ⟨A, cap, rfl, h1, h2, hr, hA⟩ := h.form
 refine ⟨A, cap, rfl, ⟨rfl, h1, h2, fun h0 => ?_⟩, hA⟩
 obtain ⟨b, o, rfl, hl, hc⟩ := hr.at_ h0
 refine ⟨b, o, rfl, hl, fun i hi => ?_⟩
 obtain ⟨_, hc⟩ := hc i (by simpa using hi)
 rw [List.getElem_map] at hc
 have := hc 0 (by simp [kitI])
 simpa [kitI] using this
theorem infoInt : (Tryz.prog.info? 3).map (fun i => (i.zero, i.size, i.bytes)) = some (some (.int .i64 0), 1, 8) := by kernel_rfl
theorem wpList_int {base : Nat} {ops : Array Oper} {rest : List Oper} {o : Oper} {act : Act} {Q : Exit -> Act -> World -> Prop} {w : World} (hgd : o.guard = none) (s y : Operand)
  (ho : o.op = .call { callee := .builtin .append, args := #[s, y], argTypes := #[29, 29] })
  {v : Value} {X : List Int} (hO : OwnAt kitI 3 base w v X) (x : Int) (cs : Array Value) (hcs : cs.toList = [.int .i64 x])
  (hs : act.eval s = v) (hy : act.eval y = .slice (some ⟨w.heap.size, 0, none⟩) 1 1) (hb : X.length + 1 <= 1099511627777) (hbase : base <= w.heap.size)
  (h : ∀ v' w', OwnAt kitI 3 base w' v' (X ++ [x]) -> w.grownBy w' v.ownBlock -> (v'.ownBlock = v.ownBlock \/ ∃ b, v'.ownBlock = some b /\ w.heap.size <= b) -> wpList Tryz.prog ops Q rest (act.put o.dst v') w') : wpList Tryz.prog ops Q (o :: rest) act (w.alloc (.cells cs 3)) := by
 obtain ⟨i0, hi, hz0, hz1, hz2⟩ := info_parts infoInt
 exact wpList_own hgd s y ho Tryz.underlying29 hi hz0 hz1 hz2 rfl (by decide) hO x cs hcs trivial (fun b hb => hb.elim) (fun b hb => hb.elim) hs hy (by unfold maxLen; omega) hbase h
structure HiAt (w wr : World) (B n : Nat) (H : List Nat) : Prop where
 below : Below w.heap.size w wr
 ge : w.heap.size <= B
 lt : B < wr.heap.size
 size : H.length = n
 cells : ∀ j, (h : j < H.length) -> wr.cell? ⟨B, j, none⟩ = some (.int .i64 H[j])
 frozen : ∀ j, wr.frozen? ⟨B, j, none⟩ = false
theorem HiAt.grow {w wr w' : World} {B n : Nat} {H : List Nat} (h : HiAt w wr B n H) (hb : Below wr.heap.size wr w') : HiAt w w' B n H :=
 ⟨h.below.trans (hb.mono h.below.size), h.ge, Nat.lt_of_lt_of_le h.lt hb.size, h.size, fun j hj => (hb.cell (p := ⟨B, j, none⟩) h.lt).trans (h.cells j hj), fun j => (hb.frozen (p := ⟨B, j, none⟩) h.lt).trans (h.frozen j)⟩
theorem HiAt.set {w wr : World} {B n : Nat} {H : List Nat} (h : HiAt w wr B n H) (j v : Nat) (hj : j < n) : HiAt w (wr.setCell ⟨B, j, none⟩ (.int .i64 v)) B n (H.set j v) := by
 have hg := zd wr B j (.int .i64 v)
 refine ⟨zp h.below h.ge hg, h.ge, Nat.lt_of_lt_of_le h.lt hg.size, by rw [List.length_set]; exact h.size, fun i hi => ?_, fun i => ?_⟩
 ·
  have hi' : i < H.length := by simpa using hi
  by_cases e : i = j
  ·
   subst e
   rw [zh (h.cells i hi'), List.getElem_set_self]
  rw [zg (h.cells i hi') e, List.getElem_set_ne (Ne.symm e)]
 rw [<- h.frozen i]
 simp
theorem HiAt.nth {w wr : World} {B n : Nat} {H : List Nat} (h : HiAt w wr B n H) {j v : Nat} (hj : H[j]? = some v) : wr.cell? ⟨B, j, none⟩ = some (.int .i64 v) := by
 obtain ⟨hi, rfl⟩ := List.getElem?_eq_some_iff.1 hj
 exact h.cells j hi
def NextOk (a n v : Nat) : List Nat -> List Nat -> Prop
 | [], _ => True
 | m :: r, H => (a + 1 <= m /\ m < n) /\ (H[m]? = some 0 \/ H[m]? = some v) /\ NextOk a n v r (H.set m v)
theorem arP_le (s : ByteArray) : arP s <= 2 := by
 unfold arP
 split
 ·
  exact Nat.le_refl _
 split <;> decide
def setAll (v : Nat) : List Nat -> List Nat -> List Nat
 | [], H => H
 | m :: r, H => setAll v r (H.set m v)
theorem next_at {a n v : Nat} : (nx H : List Nat) -> NextOk a n v nx H -> (k : Nat) -> (hk : k < nx.length) -> (a + 1 <= nx[k] /\ nx[k] < n) /\ ((setAll v (nx.take k) H)[nx[k]]? = some 0 \/ (setAll v (nx.take k) H)[nx[k]]? = some v) /\ setAll v (nx.take (k + 1)) H = (setAll v (nx.take k) H).set nx[k] v
 | m :: r, H, ⟨h1, h2, h3⟩, 0, _ => ⟨h1, h2, rfl⟩
 | m :: r, H, ⟨h1, h2, h3⟩, k + 1, hk => next_at r (H.set m v) h3 k (by simpa using hk)
set_option maxHeartbeats 8000000 in
theorem funcMay_any {f0 f1 f2 f3 f4 : Value} {w : World} {A : Option Addr} {n c : Nat} {C : List IV} (o : Nat) (hA : InsAt w A n c C) (ho : o <= 6) (hn6 : n <= 6000) (h0 : C[0]? = some tickI) (hchk : Chk C o 0 (1 :: List.replicate (n - 1) 0)) (hprim : ∀ s m, primI s m ∈ C -> arP s = m -> arS s m) :
  Calls Tryz.prog 43 #[.agg #[f0, f1, f2, f3, f4], .agg #[.int .i64 o, .int .i64 o, .int .i64 0, .slice A n c]] w fun e w' => e = .returned (.bool true) /\ Below w.heap.size w w' := by
 have hsz := hA.size
 have hcap := hA.cap_
 have hle := hA.le
 have hn1 : 1 <= n := by
  obtain ⟨hi, _⟩ := List.getElem?_eq_some_iff.1 h0
  omega
 have hc63 : c <= 9223372036854775807 := by unfold maxLen at hcap; omega
 obtain ⟨wb, hwb⟩ : ∃ wb, (w.alloc (.cells #[f0, f1, f2, f3, f4] 46)).alloc (.cells #[.int .i64 o, .int .i64 o, .int .i64 0, .slice A n c] 32) = wb := ⟨_, rfl⟩
 have hb : Below w.heap.size w wb := by rw [<- hwb]; exact ((Below.refl _ _).alloc (Nat.le_refl _) _).alloc (by simp) _
 have z0 : wb.cell? ⟨w.heap.size, 0, none⟩ = some f0 := by rw [<- hwb]; exact cell_first _ _ _ _ _ 0
 have z1 : wb.cell? ⟨w.heap.size, 1, none⟩ = some f1 := by rw [<- hwb]; exact cell_first _ _ _ _ _ 1
 have z2 : wb.cell? ⟨w.heap.size, 2, none⟩ = some f2 := by rw [<- hwb]; exact cell_first _ _ _ _ _ 2
 have z3 : wb.cell? ⟨w.heap.size, 3, none⟩ = some f3 := by rw [<- hwb]; exact cell_first _ _ _ _ _ 3
 have z4 : wb.cell? ⟨w.heap.size, 4, none⟩ = some f4 := by rw [<- hwb]; exact cell_first _ _ _ _ _ 4
 have y0 : wb.cell? ⟨w.heap.size + 1, 0, none⟩ = some (.int .i64 o) := by rw [<- hwb]; exact cell_second _ _ _ _ _ 0
 have y1 : wb.cell? ⟨w.heap.size + 1, 1, none⟩ = some (.int .i64 o) := by rw [<- hwb]; exact cell_second _ _ _ _ _ 1
 have y2 : wb.cell? ⟨w.heap.size + 1, 2, none⟩ = some (.int .i64 0) := by rw [<- hwb]; exact cell_second _ _ _ _ _ 2
 have y3 : wb.cell? ⟨w.heap.size + 1, 3, none⟩ = some (.slice A n c) := by rw [<- hwb]; exact cell_second _ _ _ _ _ 3
 have hlt : w.heap.size + 1 < wb.heap.size := by rw [<- hwb]; simp
 have HWB := Lib.hid hwb
 have HB := Lib.hid hb
 have HA := Lib.hid (hA.below hb)
 have HP := Lib.hid hprim
 obtain ⟨i0, hi, hz0, hz1, hz2⟩ := info_parts infoInt
 have hmk : ∀ W : World, (Instr.makeSlice 29 (.int .i64 (n : Int)) (.int .i64 (n : Int))).run Tryz.prog W = .ok (.slice (some ⟨W.heap.size, 0, none⟩) n n) (W.alloc (.cells (madeCells #[.int .i64 0] n) 3)) := by
  intro W
  have hr := run_make (P := Tryz.prog) W 29 3 i0 _ Tryz.underlying29 hi hz0 .i64 .i64 n n (by omega) (Int.le_refl _) (by rw [hz2]; omega) (by omega)
  simp only [Int.toNat_natCast, hz1, Nat.mul_one] at hr
  exact hr
 obtain ⟨b, o1, hAb, hbw, _, c0, _⟩ := (HA.out).nth h0
 simp only [tickI, Nat.zero_mul, Nat.add_zero] at c0
 obtain ⟨x, hx⟩ : ∃ x : Int, (o : Int) = x := ⟨_, rfl⟩
 have HX := Lib.hid hx
 have I1 := Lib.hid (fun W => in_any x 0 6 W)
 have J1 := Lib.hid (inB_yes (a := x) (b := 0) (c := 6) ⟨by omega, by omega⟩)
 have I2 := Lib.hid (fun W => in_any x x 40 W)
 have J2 := Lib.hid (inB_yes (a := x) (b := x) (c := 40) ⟨by omega, by omega⟩)
 have I3 := Lib.hid (fun W => in_any 0 0 40 W)
 have J3 := Lib.hid (inB_yes (a := 0) (b := 0) (c := 40) ⟨by decide, by decide⟩)
 have I4 := Lib.hid (fun W => in_any n 1 6000 W)
 have J4 := Lib.hid (inB_yes (a := n) (b := 1) (c := 6000) ⟨by omega, by omega⟩)
 have hc0 : (0 : Int) < (c : Int) := by omega
 have hl0 : (0 : Int) < (n : Int) := by omega
 have HCHK := Lib.hid hchk
 have HHI := Lib.hid (show HiAt w (wb.alloc (.cells ((madeCells #[.int .i64 0] n).setIfInBounds 0 (.int .i64 1)) 3)) wb.heap.size n (1 :: List.replicate (n - 1) 0) from
  ⟨HB.out.trans (((Below.refl _ _).alloc (Nat.le_refl _) _).mono HB.out.size), HB.out.size, by simp, by simp; omega, fun j hj => by
   have hjn : j < n := by simp at hj; omega
   rw [made_set _ _ _ _ _ (by omega) j hjn]
   cases j with
   | zero => rfl
   | succ j => simp, fun j => by simp⟩)
 have hm0 : (wb.alloc (.cells (madeCells #[.int .i64 0] n) 3)).cell? ⟨wb.heap.size, 0, none⟩ = some (.int .i64 0) := made_one _ _ _ _ _ (by omega)
 rw [hx] at y0 y1 ⊢
 subst hAb
 clear hA hprim hwb hb hcap hx hchk hi hz0 hz1 hz2
 go_enter Tryz.func43, Tryz.ntmps43
 go_upto_region 1 with fail
 rw [<- HX.out, HWB.out, HX.out]
 go_wp2_with fail
 refine (I1.out _).mono ?_
 rintro e w1 ⟨rfl, rfl⟩
 rw [J1.out]
 go_wp2_with fail
 refine (I2.out _).mono ?_
 rintro e w1 ⟨rfl, rfl⟩
 rw [J2.out]
 go_wp2_with fail
 refine (I3.out _).mono ?_
 rintro e w1 ⟨rfl, rfl⟩
 rw [J3.out]
 go_wp2_with fail
 refine (I4.out _).mono ?_
 rintro e w1 ⟨rfl, rfl⟩
 rw [J4.out]
 go_wp2_with fail
 go_loopg [7] n (fun g i wr => ∃ a : Nat, ∃ H, g = n - a /\ a <= n /\ i = .int .i64 a /\ Chk C o a H /\ HiAt w wr wb.heap.size n H /\ Below wb.heap.size wb wr)
 case atStart => exact ⟨0, _, by omega, by omega, rfl, HCHK.out, HHI.out, (Below.refl _ _).alloc (Nat.le_refl _) _⟩
 obtain ⟨a, H, hg, han, rfl, hck, hHi, hbr⟩ := hrel
 have HG := Lib.hid hg
 have HHR := Lib.hid hHi
 have HBR := Lib.hid hbr
 have hltr : w.heap.size + 1 < wr.heap.size := Nat.lt_of_lt_of_le hlt hbr.size
 have hltr0 : w.heap.size < wr.heap.size := by omega
 have hblt : wb.heap.size < wr.heap.size := hHi.lt
 have u0 := (hbr.cell (p := ⟨w.heap.size, 0, none⟩) (by show w.heap.size < _; omega)).trans z0
 have u1 := (hbr.cell (p := ⟨w.heap.size, 1, none⟩) (by show w.heap.size < _; omega)).trans z1
 have u2 := (hbr.cell (p := ⟨w.heap.size, 2, none⟩) (by show w.heap.size < _; omega)).trans z2
 have u3 := (hbr.cell (p := ⟨w.heap.size, 3, none⟩) (by show w.heap.size < _; omega)).trans z3
 have u4 := (hbr.cell (p := ⟨w.heap.size, 4, none⟩) (by show w.heap.size < _; omega)).trans z4
 have v0 := (hbr.cell (p := ⟨w.heap.size + 1, 0, none⟩) hlt).trans y0
 have v1 := (hbr.cell (p := ⟨w.heap.size + 1, 1, none⟩) hlt).trans y1
 have v2 := (hbr.cell (p := ⟨w.heap.size + 1, 2, none⟩) hlt).trans y2
 have v3 := (hbr.cell (p := ⟨w.heap.size + 1, 3, none⟩) hlt).trans y3
 clear hg hHi hbr
 have hla : (a : Int) < (n : Int) \/ a = n := by omega
 rcases hla with hla | rfl
 ·
  have hac : (a : Int) < (c : Int) := by omega
  have ha0 : (0 : Int) <= (a : Int) := by omega
  cases hck with
  | done => omega
  | flow hi hk hh hle hb hn hx k =>
   rename_i i h t l
   cases hk with
   | tick =>
    obtain ⟨b2, o2, hA2, _, _, d0, d1, d2, d3, d4, d5, d6, d7⟩ := (HA.out.below HBR.out).nth hi
    obtain ⟨rfl, rfl⟩ : b = b2 /\ o1 = o2 := by simpa using hA2
    simp only [tickI, noW] at d0 d1 d2 d3 d4 d5 d6 d7
    have e9 := HHR.out.nth hh
    obtain ⟨hv, hhv⟩ : ∃ hv : Int, (((h + 1 : Nat)) : Int) = hv := ⟨_, rfl⟩
    rw [hhv] at e9
    have HHV := Lib.hid hhv
    have t1 : ¬ hv - 1 < 0 := by omega
    have t2 : ¬ 6000 < hv - 1 := by omega
    clear hi hA2
    go_wp2_with fail
    rw [<- HX.out]
    have hwa : Below wr.heap.size wr (wr.alloc (.cells #[.int .i64 1, .int .i64 0, .int .i64 0, .string ⟨#[]⟩, .string ⟨#[]⟩, .int .i64 0, .int .i64 0, .string ⟨#[]⟩] 51)) := (Below.refl _ _).alloc (Nat.le_refl _) _
    refine (may_tick _ _ _ _ _).mono ?_
    rintro e w2 ⟨rfl, hb2⟩
    rw [HX.out]
    have q0 := (hb2.cell (p := ⟨wr.heap.size, 0, none⟩) (by simp)).trans (za wr _ _ 0)
    have q1 := (hb2.cell (p := ⟨wr.heap.size, 1, none⟩) (by simp)).trans (za wr _ _ 1)
    simp only [List.getElem?_toArray, List.getElem?_cons_zero, List.getElem?_cons_succ] at q0 q1
    have hb2r := hwa.trans (hb2.mono hwa.size)
    have e9 := (hb2r.cell (p := ⟨wb.heap.size, a, none⟩) hblt).trans e9
    have HH2 := Lib.hid (HHR.out.grow hb2r)
    have HB2 := Lib.hid (HBR.out.trans (hb2r.mono HBR.out.size))
    have hs2 := hb2r.size
    have hs3 : wr.heap.size < w2.heap.size := Nat.lt_of_lt_of_le (by simp) hb2.size
    clear hwa hb2 hb2r
    go_wp2_with (at_builtin; refine wpList_int rfl (.tmp 124) (.tmp 127) rfl (OwnAt.start kitI 3 w2.heap.size _) ((a : Int) + 1) _ rfl rfl rfl (by simp) (by first | exact Nat.le_refl _ | omega | (simp; omega)) ?_; intro v3 w3 hO3 hg3 _)
    have hb23 : Below w2.heap.size w2 w3 := (Below.refl _ _).grown hg3 (Nat.le_refl _) (fun b hb => by cases hb)
    have HH3 := Lib.hid (HH2.out.grow hb23)
    have HB3 := Lib.hid (HB2.out.trans (hb23.mono HB2.out.size))
    clear hg3 hb23
    obtain ⟨A3, c3, rfl, hI3, hA3⟩ := hO3.ints
    obtain ⟨nx, hnx⟩ : ∃ nx : List Nat, nx = [a + 1] := ⟨_, rfl⟩
    have hX : [] ++ [((a : Int) + 1)] = nx.map (fun m : Nat => (m : Int)) := by rw [hnx]; simp
    rw [hX] at hI3
    have hA3 : ∀ a, A3 = some a -> wb.heap.size + 1 <= a.block := fun a ha => by have h1 := hA3 a ha; have h2 := HH2.out.lt; omega
    obtain ⟨L, hL⟩ : ∃ L, L = ([] ++ [((a : Int) + 1)]).length := ⟨_, rfl⟩
    have hLn : nx.length = L := by rw [hL, hX, List.length_map]
    rw [<- hL]
    have HNX := Lib.hid (show NextOk a n (h + 1) nx H from by rw [hnx]; exact ⟨⟨Nat.le_refl _, by omega⟩, hx, trivial⟩)
    have HK := Lib.hid (show Chk C o (a + 1) (setAll (h + 1) nx H) from by rw [hnx]; exact k)
    have HV := Lib.hid (show (((h + 1 : Nat)) : Int) = hv from HHV.out)
    have HI3 := Lib.hid (show IntsAt w3 A3 L c3 (nx.map (fun m : Nat => (m : Int))) from by have h := hI3; rw [List.length_map, hLn] at h; exact h)
    have HA3 := Lib.hid hA3
    have hc3 := HI3.out.cap_
    have hLc := HI3.out.le
    have hc63' : c3 <= 9223372036854775807 := by unfold maxLen at hc3; omega
    clear hO3 hI3 hA3 hX hL hnx hc3
    obtain ⟨wo, rfl⟩ : ∃ wo : World, wo = wr := ⟨_, rfl⟩
    go_loopg [14] L (fun g i wi => ∃ k : Nat, g = L - k /\ k <= L /\ i = .int .i64 k /\ HiAt w wi wb.heap.size n (setAll (h + 1) (nx.take k) H) /\ Below wb.heap.size wb wi /\ IntsAt wi A3 L c3 (nx.map (fun m : Nat => (m : Int))))
    case atStart => exact ⟨0, by omega, by omega, rfl, HH3.out, HB3.out, HI3.out⟩
    obtain ⟨k, hgk, hkL, rfl, hHk, hbk, hIk⟩ := hrel
    have HGK := Lib.hid hgk
    have HHK := Lib.hid hHk
    have HBK := Lib.hid hbk
    have HIK := Lib.hid hIk
    clear hgk hHk hbk hIk
    have hkL2 : (k : Int) < (L : Int) \/ k = L := by omega
    rcases hkL2 with hkL2 | rfl
    ·
     have hkn : k < nx.length := by omega
     obtain ⟨⟨m1, m2⟩, m3, m4⟩ := next_at nx H HNX.out k hkn
     obtain ⟨b4, o4, rfl, hb4, hc4⟩ := HIK.out.at_ (by omega)
     have p0 := hc4 k (by simpa using hkn)
     rw [List.getElem_map] at p0
     obtain ⟨m, hm⟩ : ∃ m, nx[k] = m := ⟨_, rfl⟩
     rw [hm] at m1 m2 m3 m4 p0
     have M4 := Lib.hid m4
     obtain ⟨N1, hN1⟩ : ∃ N1 : Int, (n : Int) - 1 = N1 := ⟨_, rfl⟩
     have I9 := Lib.hid (fun W => in_any m ((a : Int) + 1) N1 W)
     have J9 := Lib.hid (inB_yes (a := m) (b := (a : Int) + 1) (c := N1) ⟨by omega, by omega⟩)
     have HN1 := Lib.hid hN1
     have hk0 : (0 : Int) <= (k : Int) := Int.natCast_nonneg _
     have hkc : (k : Int) < (c3 : Int) := by omega
     have hm0 : (0 : Int) <= (m : Int) := Int.natCast_nonneg _
     have hmn : (m : Int) < (n : Int) := by omega
     have pf := HHK.out.frozen m
     have hnb : b4 ≠ wb.heap.size := by have h := HA3.out _ rfl; simp at h; omega
     clear hc4 hm m4 hN1
     rcases m3 with m3 | m3
     ·
      have p1 := HHK.out.nth m3
      clear m3
      go_wp2_with fail
      rw [HN1.out]
      refine (I9.out _).mono ?_
      rintro e w5 ⟨rfl, rfl⟩
      rw [J9.out]
      go_wp2_with fail
      go_roundg (L - (k + 1))
      case rel => exact ⟨k + 1, rfl, by omega, by go_num, by have h := HHK.out.set m (h + 1) m2; rw [HV.out] at h; rw [M4.out]; exact h, zp HBK.out (Nat.le_refl _) (zd _ _ _ _), HIK.out.grown (fun a ha => by have h := HA3.out a ha; omega) (zd _ _ _ _)⟩
      case measure => have := HGK.out; omega
     have p1 := HHK.out.nth m3
     rw [HV.out] at p1
     clear m3
     go_wp2_with fail
     rw [HN1.out]
     refine (I9.out _).mono ?_
     rintro e w5 ⟨rfl, rfl⟩
     rw [J9.out]
     go_wp2_with fail
     go_roundg (L - (k + 1))
     case rel => exact ⟨k + 1, rfl, by omega, by go_num, by have h := HHK.out.set m (h + 1) m2; rw [HV.out] at h; rw [M4.out]; exact h, zp HBK.out (Nat.le_refl _) (zd _ _ _ _), HIK.out.grown (fun a ha => by have h := HA3.out a ha; omega) (zd _ _ _ _)⟩
     case measure => have := HGK.out; omega
    go_wp2_with fail
    go_roundg (n - (a + 1))
    case rel => exact ⟨a + 1, _, rfl, by omega, by go_num, HK.out, by have h := HHK.out; rw [List.take_of_length_le (by rw [hLn]; exact Nat.le_refl _)] at h; exact h, HBK.out⟩
    case measure => have := HG.out; omega
   | @const xw hxw =>
    obtain ⟨xk, xn, xs⟩ := xw
    obtain ⟨b2, o2, hA2, _, _, d0, d1, d2, d3, d4, d5, d6, d7⟩ := (HA.out.below HBR.out).nth hi
    obtain ⟨rfl, rfl⟩ : b = b2 /\ o1 = o2 := by simpa using hA2
    simp only [constI] at d0 d1 d2 d3 d4 d5 d6 d7
    have e9 := HHR.out.nth hh
    obtain ⟨hv, hhv⟩ : ∃ hv : Int, (((h + 1 : Nat)) : Int) = hv := ⟨_, rfl⟩
    obtain ⟨V, hV⟩ : ∃ V : Int, hv + 1 = V := ⟨_, rfl⟩
    have HVV := Lib.hid hV
    rw [hhv] at e9
    have HHV := Lib.hid hhv
    have t1 : ¬ hv - 1 < 0 := by omega
    have t2 : ¬ 6000 < V - 1 := by omega
    clear hi hA2
    go_wp2_with fail
    rw [<- HX.out]
    have hwa : Below wr.heap.size wr (wr.alloc (.cells #[.int .i64 2, .int .i64 0, .int .i64 0, .string ⟨#[]⟩, .string ⟨#[]⟩, .int .i64 xk, .int .i64 xn, .string xs] 51)) := (Below.refl _ _).alloc (Nat.le_refl _) _
    refine (may_const _ _ _ _ _ ⟨xk, xn, xs⟩ hxw).mono ?_
    rintro e w2 ⟨rfl, hb2⟩
    rw [HX.out]
    have q0 := (hb2.cell (p := ⟨wr.heap.size, 0, none⟩) (by simp)).trans (za wr _ _ 0)
    have q1 := (hb2.cell (p := ⟨wr.heap.size, 1, none⟩) (by simp)).trans (za wr _ _ 1)
    simp only [List.getElem?_toArray, List.getElem?_cons_zero, List.getElem?_cons_succ] at q0 q1
    have hb2r := hwa.trans (hb2.mono hwa.size)
    have e9 := (hb2r.cell (p := ⟨wb.heap.size, a, none⟩) hblt).trans e9
    have HH2 := Lib.hid (HHR.out.grow hb2r)
    have HB2 := Lib.hid (HBR.out.trans (hb2r.mono HBR.out.size))
    have hs2 := hb2r.size
    have hs3 : wr.heap.size < w2.heap.size := Nat.lt_of_lt_of_le (by simp) hb2.size
    clear hwa hb2 hb2r
    go_wp2_with (at_builtin; refine wpList_int rfl (.tmp 124) (.tmp 127) rfl (OwnAt.start kitI 3 w2.heap.size _) ((a : Int) + 1) _ rfl rfl rfl (by simp) (by first | exact Nat.le_refl _ | omega | (simp; omega)) ?_; intro v3 w3 hO3 hg3 _)
    have hb23 : Below w2.heap.size w2 w3 := (Below.refl _ _).grown hg3 (Nat.le_refl _) (fun b hb => by cases hb)
    have HH3 := Lib.hid (HH2.out.grow hb23)
    have HB3 := Lib.hid (HB2.out.trans (hb23.mono HB2.out.size))
    clear hg3 hb23
    obtain ⟨A3, c3, rfl, hI3, hA3⟩ := hO3.ints
    obtain ⟨nx, hnx⟩ : ∃ nx : List Nat, nx = [a + 1] := ⟨_, rfl⟩
    have hX : [] ++ [((a : Int) + 1)] = nx.map (fun m : Nat => (m : Int)) := by rw [hnx]; simp
    rw [hX] at hI3
    have hA3 : ∀ a, A3 = some a -> wb.heap.size + 1 <= a.block := fun a ha => by have h1 := hA3 a ha; have h2 := HH2.out.lt; omega
    obtain ⟨L, hL⟩ : ∃ L, L = ([] ++ [((a : Int) + 1)]).length := ⟨_, rfl⟩
    have hLn : nx.length = L := by rw [hL, hX, List.length_map]
    rw [<- hL]
    have HNX := Lib.hid (show NextOk a n (h - 0 + 1 + 1) nx H from by rw [hnx]; exact ⟨⟨Nat.le_refl _, by omega⟩, hx, trivial⟩)
    have HK := Lib.hid (show Chk C o (a + 1) (setAll (h - 0 + 1 + 1) nx H) from by rw [hnx]; exact k)
    have HV := Lib.hid (show (((h - 0 + 1 + 1 : Nat)) : Int) = V from (by have h1 := HHV.out; have h2 := HVV.out; omega))
    have HI3 := Lib.hid (show IntsAt w3 A3 L c3 (nx.map (fun m : Nat => (m : Int))) from by have h := hI3; rw [List.length_map, hLn] at h; exact h)
    have HA3 := Lib.hid hA3
    have hc3 := HI3.out.cap_
    have hLc := HI3.out.le
    have hc63' : c3 <= 9223372036854775807 := by unfold maxLen at hc3; omega
    clear hO3 hI3 hA3 hX hL hnx hc3
    obtain ⟨wo, rfl⟩ : ∃ wo : World, wo = wr := ⟨_, rfl⟩
    go_loopg [14] L (fun g i wi => ∃ k : Nat, g = L - k /\ k <= L /\ i = .int .i64 k /\ HiAt w wi wb.heap.size n (setAll (h - 0 + 1 + 1) (nx.take k) H) /\ Below wb.heap.size wb wi /\ IntsAt wi A3 L c3 (nx.map (fun m : Nat => (m : Int))))
    case atStart => exact ⟨0, by omega, by omega, rfl, HH3.out, HB3.out, HI3.out⟩
    obtain ⟨k, hgk, hkL, rfl, hHk, hbk, hIk⟩ := hrel
    have HGK := Lib.hid hgk
    have HHK := Lib.hid hHk
    have HBK := Lib.hid hbk
    have HIK := Lib.hid hIk
    clear hgk hHk hbk hIk
    have hkL2 : (k : Int) < (L : Int) \/ k = L := by omega
    rcases hkL2 with hkL2 | rfl
    ·
     have hkn : k < nx.length := by omega
     obtain ⟨⟨m1, m2⟩, m3, m4⟩ := next_at nx H HNX.out k hkn
     obtain ⟨b4, o4, rfl, hb4, hc4⟩ := HIK.out.at_ (by omega)
     have p0 := hc4 k (by simpa using hkn)
     rw [List.getElem_map] at p0
     obtain ⟨m, hm⟩ : ∃ m, nx[k] = m := ⟨_, rfl⟩
     rw [hm] at m1 m2 m3 m4 p0
     have M4 := Lib.hid m4
     obtain ⟨N1, hN1⟩ : ∃ N1 : Int, (n : Int) - 1 = N1 := ⟨_, rfl⟩
     have I9 := Lib.hid (fun W => in_any m ((a : Int) + 1) N1 W)
     have J9 := Lib.hid (inB_yes (a := m) (b := (a : Int) + 1) (c := N1) ⟨by omega, by omega⟩)
     have HN1 := Lib.hid hN1
     have hk0 : (0 : Int) <= (k : Int) := Int.natCast_nonneg _
     have hkc : (k : Int) < (c3 : Int) := by omega
     have hm0 : (0 : Int) <= (m : Int) := Int.natCast_nonneg _
     have hmn : (m : Int) < (n : Int) := by omega
     have pf := HHK.out.frozen m
     have hnb : b4 ≠ wb.heap.size := by have h := HA3.out _ rfl; simp at h; omega
     clear hc4 hm m4 hN1
     rcases m3 with m3 | m3
     ·
      have p1 := HHK.out.nth m3
      clear m3
      go_wp2_with fail
      rw [HN1.out]
      refine (I9.out _).mono ?_
      rintro e w5 ⟨rfl, rfl⟩
      rw [J9.out]
      go_wp2_with fail
      go_roundg (L - (k + 1))
      case rel => exact ⟨k + 1, rfl, by omega, by go_num, by have h := HHK.out.set m (h - 0 + 1 + 1) m2; rw [HV.out] at h; rw [M4.out]; exact h, zp HBK.out (Nat.le_refl _) (zd _ _ _ _), HIK.out.grown (fun a ha => by have h := HA3.out a ha; omega) (zd _ _ _ _)⟩
      case measure => have := HGK.out; omega
     have p1 := HHK.out.nth m3
     rw [HV.out] at p1
     clear m3
     go_wp2_with fail
     rw [HN1.out]
     refine (I9.out _).mono ?_
     rintro e w5 ⟨rfl, rfl⟩
     rw [J9.out]
     go_wp2_with fail
     go_roundg (L - (k + 1))
     case rel => exact ⟨k + 1, rfl, by omega, by go_num, by have h := HHK.out.set m (h - 0 + 1 + 1) m2; rw [HV.out] at h; rw [M4.out]; exact h, zp HBK.out (Nat.le_refl _) (zd _ _ _ _), HIK.out.grown (fun a ha => by have h := HA3.out a ha; omega) (zd _ _ _ _)⟩
     case measure => have := HGK.out; omega
    go_wp2_with fail
    go_roundg (n - (a + 1))
    case rel => exact ⟨a + 1, _, rfl, by omega, by go_num, HK.out, by have h := HHK.out; rw [List.take_of_length_le (by rw [hLn]; exact Nat.le_refl _)] at h; exact h, HBK.out⟩
    case measure => have := HG.out; omega
   | @local_ li hli =>
    obtain ⟨b2, o2, hA2, _, _, d0, d1, d2, d3, d4, d5, d6, d7⟩ := (HA.out.below HBR.out).nth hi
    obtain ⟨rfl, rfl⟩ : b = b2 /\ o1 = o2 := by simpa using hA2
    simp only [localI, noW] at d0 d1 d2 d3 d4 d5 d6 d7
    have e9 := HHR.out.nth hh
    obtain ⟨hv, hhv⟩ : ∃ hv : Int, (((h + 1 : Nat)) : Int) = hv := ⟨_, rfl⟩
    obtain ⟨V, hV⟩ : ∃ V : Int, hv + 1 = V := ⟨_, rfl⟩
    have HVV := Lib.hid hV
    rw [hhv] at e9
    have HHV := Lib.hid hhv
    have t1 : ¬ hv - 1 < 0 := by omega
    have t2 : ¬ 6000 < V - 1 := by omega
    clear hi hA2
    go_wp2_with fail
    rw [<- HX.out]
    have hwa : Below wr.heap.size wr (wr.alloc (.cells #[.int .i64 3, .int .i64 li, .int .i64 0, .string ⟨#[]⟩, .string ⟨#[]⟩, .int .i64 0, .int .i64 0, .string ⟨#[]⟩] 51)) := (Below.refl _ _).alloc (Nat.le_refl _) _
    refine (may_local _ _ _ _ _ li hli ho).mono ?_
    rintro e w2 ⟨rfl, hb2⟩
    rw [HX.out]
    have q0 := (hb2.cell (p := ⟨wr.heap.size, 0, none⟩) (by simp)).trans (za wr _ _ 0)
    have q1 := (hb2.cell (p := ⟨wr.heap.size, 1, none⟩) (by simp)).trans (za wr _ _ 1)
    simp only [List.getElem?_toArray, List.getElem?_cons_zero, List.getElem?_cons_succ] at q0 q1
    have hb2r := hwa.trans (hb2.mono hwa.size)
    have e9 := (hb2r.cell (p := ⟨wb.heap.size, a, none⟩) hblt).trans e9
    have HH2 := Lib.hid (HHR.out.grow hb2r)
    have HB2 := Lib.hid (HBR.out.trans (hb2r.mono HBR.out.size))
    have hs2 := hb2r.size
    have hs3 : wr.heap.size < w2.heap.size := Nat.lt_of_lt_of_le (by simp) hb2.size
    clear hwa hb2 hb2r
    go_wp2_with (at_builtin; refine wpList_int rfl (.tmp 124) (.tmp 127) rfl (OwnAt.start kitI 3 w2.heap.size _) ((a : Int) + 1) _ rfl rfl rfl (by simp) (by first | exact Nat.le_refl _ | omega | (simp; omega)) ?_; intro v3 w3 hO3 hg3 _)
    have hb23 : Below w2.heap.size w2 w3 := (Below.refl _ _).grown hg3 (Nat.le_refl _) (fun b hb => by cases hb)
    have HH3 := Lib.hid (HH2.out.grow hb23)
    have HB3 := Lib.hid (HB2.out.trans (hb23.mono HB2.out.size))
    clear hg3 hb23
    obtain ⟨A3, c3, rfl, hI3, hA3⟩ := hO3.ints
    obtain ⟨nx, hnx⟩ : ∃ nx : List Nat, nx = [a + 1] := ⟨_, rfl⟩
    have hX : [] ++ [((a : Int) + 1)] = nx.map (fun m : Nat => (m : Int)) := by rw [hnx]; simp
    rw [hX] at hI3
    have hA3 : ∀ a, A3 = some a -> wb.heap.size + 1 <= a.block := fun a ha => by have h1 := hA3 a ha; have h2 := HH2.out.lt; omega
    obtain ⟨L, hL⟩ : ∃ L, L = ([] ++ [((a : Int) + 1)]).length := ⟨_, rfl⟩
    have hLn : nx.length = L := by rw [hL, hX, List.length_map]
    rw [<- hL]
    have HNX := Lib.hid (show NextOk a n (h - 0 + 1 + 1) nx H from by rw [hnx]; exact ⟨⟨Nat.le_refl _, by omega⟩, hx, trivial⟩)
    have HK := Lib.hid (show Chk C o (a + 1) (setAll (h - 0 + 1 + 1) nx H) from by rw [hnx]; exact k)
    have HV := Lib.hid (show (((h - 0 + 1 + 1 : Nat)) : Int) = V from (by have h1 := HHV.out; have h2 := HVV.out; omega))
    have HI3 := Lib.hid (show IntsAt w3 A3 L c3 (nx.map (fun m : Nat => (m : Int))) from by have h := hI3; rw [List.length_map, hLn] at h; exact h)
    have HA3 := Lib.hid hA3
    have hc3 := HI3.out.cap_
    have hLc := HI3.out.le
    have hc63' : c3 <= 9223372036854775807 := by unfold maxLen at hc3; omega
    clear hO3 hI3 hA3 hX hL hnx hc3
    obtain ⟨wo, rfl⟩ : ∃ wo : World, wo = wr := ⟨_, rfl⟩
    go_loopg [14] L (fun g i wi => ∃ k : Nat, g = L - k /\ k <= L /\ i = .int .i64 k /\ HiAt w wi wb.heap.size n (setAll (h - 0 + 1 + 1) (nx.take k) H) /\ Below wb.heap.size wb wi /\ IntsAt wi A3 L c3 (nx.map (fun m : Nat => (m : Int))))
    case atStart => exact ⟨0, by omega, by omega, rfl, HH3.out, HB3.out, HI3.out⟩
    obtain ⟨k, hgk, hkL, rfl, hHk, hbk, hIk⟩ := hrel
    have HGK := Lib.hid hgk
    have HHK := Lib.hid hHk
    have HBK := Lib.hid hbk
    have HIK := Lib.hid hIk
    clear hgk hHk hbk hIk
    have hkL2 : (k : Int) < (L : Int) \/ k = L := by omega
    rcases hkL2 with hkL2 | rfl
    ·
     have hkn : k < nx.length := by omega
     obtain ⟨⟨m1, m2⟩, m3, m4⟩ := next_at nx H HNX.out k hkn
     obtain ⟨b4, o4, rfl, hb4, hc4⟩ := HIK.out.at_ (by omega)
     have p0 := hc4 k (by simpa using hkn)
     rw [List.getElem_map] at p0
     obtain ⟨m, hm⟩ : ∃ m, nx[k] = m := ⟨_, rfl⟩
     rw [hm] at m1 m2 m3 m4 p0
     have M4 := Lib.hid m4
     obtain ⟨N1, hN1⟩ : ∃ N1 : Int, (n : Int) - 1 = N1 := ⟨_, rfl⟩
     have I9 := Lib.hid (fun W => in_any m ((a : Int) + 1) N1 W)
     have J9 := Lib.hid (inB_yes (a := m) (b := (a : Int) + 1) (c := N1) ⟨by omega, by omega⟩)
     have HN1 := Lib.hid hN1
     have hk0 : (0 : Int) <= (k : Int) := Int.natCast_nonneg _
     have hkc : (k : Int) < (c3 : Int) := by omega
     have hm0 : (0 : Int) <= (m : Int) := Int.natCast_nonneg _
     have hmn : (m : Int) < (n : Int) := by omega
     have pf := HHK.out.frozen m
     have hnb : b4 ≠ wb.heap.size := by have h := HA3.out _ rfl; simp at h; omega
     clear hc4 hm m4 hN1
     rcases m3 with m3 | m3
     ·
      have p1 := HHK.out.nth m3
      clear m3
      go_wp2_with fail
      rw [HN1.out]
      refine (I9.out _).mono ?_
      rintro e w5 ⟨rfl, rfl⟩
      rw [J9.out]
      go_wp2_with fail
      go_roundg (L - (k + 1))
      case rel => exact ⟨k + 1, rfl, by omega, by go_num, by have h := HHK.out.set m (h - 0 + 1 + 1) m2; rw [HV.out] at h; rw [M4.out]; exact h, zp HBK.out (Nat.le_refl _) (zd _ _ _ _), HIK.out.grown (fun a ha => by have h := HA3.out a ha; omega) (zd _ _ _ _)⟩
      case measure => have := HGK.out; omega
     have p1 := HHK.out.nth m3
     rw [HV.out] at p1
     clear m3
     go_wp2_with fail
     rw [HN1.out]
     refine (I9.out _).mono ?_
     rintro e w5 ⟨rfl, rfl⟩
     rw [J9.out]
     go_wp2_with fail
     go_roundg (L - (k + 1))
     case rel => exact ⟨k + 1, rfl, by omega, by go_num, by have h := HHK.out.set m (h - 0 + 1 + 1) m2; rw [HV.out] at h; rw [M4.out]; exact h, zp HBK.out (Nat.le_refl _) (zd _ _ _ _), HIK.out.grown (fun a ha => by have h := HA3.out a ha; omega) (zd _ _ _ _)⟩
     case measure => have := HGK.out; omega
    go_wp2_with fail
    go_roundg (n - (a + 1))
    case rel => exact ⟨a + 1, _, rfl, by omega, by go_num, HK.out, by have h := HHK.out; rw [List.take_of_length_le (by rw [hLn]; exact Nat.le_refl _)] at h; exact h, HBK.out⟩
    case measure => have := HG.out; omega
   | @prim ps _ hp1 hp2 =>
    obtain ⟨b2, o2, hA2, _, _, d0, d1, d2, d3, d4, d5, d6, d7⟩ := (HA.out.below HBR.out).nth hi
    obtain ⟨rfl, rfl⟩ : b = b2 /\ o1 = o2 := by simpa using hA2
    simp only [primI, noW] at d0 d1 d2 d3 d4 d5 d6 d7
    have e9 := HHR.out.nth hh
    obtain ⟨hv, hhv⟩ : ∃ hv : Int, (((h + 1 : Nat)) : Int) = hv := ⟨_, rfl⟩
    obtain ⟨y, hy⟩ : ∃ y : Int, (t : Int) = y := ⟨_, rfl⟩
    rw [hy] at d1
    obtain ⟨V, hV⟩ : ∃ V : Int, hv - y + 1 = V := ⟨_, rfl⟩
    have HVV := Lib.hid hV
    rw [hhv] at e9
    have HHV := Lib.hid hhv
    have HAR := HP.out ps t (List.mem_of_getElem? hi) hp1
    have HMY := Lib.hid (fun (W : World) => show Calls Tryz.prog 77 #[.agg #[f0, f1, f2, f3, f4], .agg #[.int .i64 o, .int .i64 o, .int .i64 0, .slice (some ⟨b, o1, none⟩) n c], .agg #[.int .i64 18, .int .i64 y, .int .i64 0, .string ps, .string ⟨#[]⟩, .int .i64 0, .int .i64 0, .string ⟨#[]⟩]] W (fun e w' => e = .returned (.tuple #[.int .i64 y, .int .i64 1, .bool true]) /\ Below W.heap.size W w') from by have h := may_prim (f0 := f0) (f1 := f1) (f2 := f2) (f3 := f3) (f4 := f4) W o (some ⟨b, o1, none⟩) n c ps t HAR; unfold MaySays IV.agg at h; simp only [primI, noW] at h; rw [hy] at h; exact h)
    have hat := arP_le ps
    have hvU : hv <= 7000 := by omega
    have hvL : 0 <= hv := by omega
    clear hat
    have t1 : ¬ hv - 1 < y := by omega
    have t2 : ¬ 6000 < V - 1 := by omega
    have HY := Lib.hid hy
    clear hy
    clear hi hA2
    go_wp2_with fail
    rw [<- HX.out]
    have hwa : Below wr.heap.size wr (wr.alloc (.cells #[.int .i64 18, .int .i64 y, .int .i64 0, .string ps, .string ⟨#[]⟩, .int .i64 0, .int .i64 0, .string ⟨#[]⟩] 51)) := (Below.refl _ _).alloc (Nat.le_refl _) _
    refine (HMY.out _).mono ?_
    rintro e w2 ⟨rfl, hb2⟩
    rw [HX.out]
    have q0 := (hb2.cell (p := ⟨wr.heap.size, 0, none⟩) (by simp)).trans (za wr _ _ 0)
    have q1 := (hb2.cell (p := ⟨wr.heap.size, 1, none⟩) (by simp)).trans (za wr _ _ 1)
    simp only [List.getElem?_toArray, List.getElem?_cons_zero, List.getElem?_cons_succ] at q0 q1
    have hb2r := hwa.trans (hb2.mono hwa.size)
    have e9 := (hb2r.cell (p := ⟨wb.heap.size, a, none⟩) hblt).trans e9
    have HH2 := Lib.hid (HHR.out.grow hb2r)
    have HB2 := Lib.hid (HBR.out.trans (hb2r.mono HBR.out.size))
    have hs2 := hb2r.size
    have hs3 : wr.heap.size < w2.heap.size := Nat.lt_of_lt_of_le (by simp) hb2.size
    clear hwa hb2 hb2r
    go_wp2_with (at_builtin; refine wpList_int rfl (.tmp 124) (.tmp 127) rfl (OwnAt.start kitI 3 w2.heap.size _) ((a : Int) + 1) _ rfl rfl rfl (by simp) (by first | exact Nat.le_refl _ | omega | (simp; omega)) ?_; intro v3 w3 hO3 hg3 _)
    have hb23 : Below w2.heap.size w2 w3 := (Below.refl _ _).grown hg3 (Nat.le_refl _) (fun b hb => by cases hb)
    have HH3 := Lib.hid (HH2.out.grow hb23)
    have HB3 := Lib.hid (HB2.out.trans (hb23.mono HB2.out.size))
    clear hg3 hb23
    obtain ⟨A3, c3, rfl, hI3, hA3⟩ := hO3.ints
    obtain ⟨nx, hnx⟩ : ∃ nx : List Nat, nx = [a + 1] := ⟨_, rfl⟩
    have hX : [] ++ [((a : Int) + 1)] = nx.map (fun m : Nat => (m : Int)) := by rw [hnx]; simp
    rw [hX] at hI3
    have hA3 : ∀ a, A3 = some a -> wb.heap.size + 1 <= a.block := fun a ha => by have h1 := hA3 a ha; have h2 := HH2.out.lt; omega
    obtain ⟨L, hL⟩ : ∃ L, L = ([] ++ [((a : Int) + 1)]).length := ⟨_, rfl⟩
    have hLn : nx.length = L := by rw [hL, hX, List.length_map]
    rw [<- hL]
    have HNX := Lib.hid (show NextOk a n (h - t + 1 + 1) nx H from by rw [hnx]; exact ⟨⟨Nat.le_refl _, by omega⟩, hx, trivial⟩)
    have HK := Lib.hid (show Chk C o (a + 1) (setAll (h - t + 1 + 1) nx H) from by rw [hnx]; exact k)
    have HV := Lib.hid (show (((h - t + 1 + 1 : Nat)) : Int) = V from (by have h1 := HHV.out; have h2 := HVV.out; have h3 := HY.out; omega))
    have HI3 := Lib.hid (show IntsAt w3 A3 L c3 (nx.map (fun m : Nat => (m : Int))) from by have h := hI3; rw [List.length_map, hLn] at h; exact h)
    have HA3 := Lib.hid hA3
    have hc3 := HI3.out.cap_
    have hLc := HI3.out.le
    have hc63' : c3 <= 9223372036854775807 := by unfold maxLen at hc3; omega
    clear hO3 hI3 hA3 hX hL hnx hc3
    obtain ⟨wo, rfl⟩ : ∃ wo : World, wo = wr := ⟨_, rfl⟩
    go_loopg [14] L (fun g i wi => ∃ k : Nat, g = L - k /\ k <= L /\ i = .int .i64 k /\ HiAt w wi wb.heap.size n (setAll (h - t + 1 + 1) (nx.take k) H) /\ Below wb.heap.size wb wi /\ IntsAt wi A3 L c3 (nx.map (fun m : Nat => (m : Int))))
    case atStart => exact ⟨0, by omega, by omega, rfl, HH3.out, HB3.out, HI3.out⟩
    obtain ⟨k, hgk, hkL, rfl, hHk, hbk, hIk⟩ := hrel
    have HGK := Lib.hid hgk
    have HHK := Lib.hid hHk
    have HBK := Lib.hid hbk
    have HIK := Lib.hid hIk
    clear hgk hHk hbk hIk
    have hkL2 : (k : Int) < (L : Int) \/ k = L := by omega
    rcases hkL2 with hkL2 | rfl
    ·
     have hkn : k < nx.length := by omega
     obtain ⟨⟨m1, m2⟩, m3, m4⟩ := next_at nx H HNX.out k hkn
     obtain ⟨b4, o4, rfl, hb4, hc4⟩ := HIK.out.at_ (by omega)
     have p0 := hc4 k (by simpa using hkn)
     rw [List.getElem_map] at p0
     obtain ⟨m, hm⟩ : ∃ m, nx[k] = m := ⟨_, rfl⟩
     rw [hm] at m1 m2 m3 m4 p0
     have M4 := Lib.hid m4
     obtain ⟨N1, hN1⟩ : ∃ N1 : Int, (n : Int) - 1 = N1 := ⟨_, rfl⟩
     have I9 := Lib.hid (fun W => in_any m ((a : Int) + 1) N1 W)
     have J9 := Lib.hid (inB_yes (a := m) (b := (a : Int) + 1) (c := N1) ⟨by omega, by omega⟩)
     have HN1 := Lib.hid hN1
     have hk0 : (0 : Int) <= (k : Int) := Int.natCast_nonneg _
     have hkc : (k : Int) < (c3 : Int) := by omega
     have hm0 : (0 : Int) <= (m : Int) := Int.natCast_nonneg _
     have hmn : (m : Int) < (n : Int) := by omega
     have pf := HHK.out.frozen m
     have hnb : b4 ≠ wb.heap.size := by have h := HA3.out _ rfl; simp at h; omega
     clear hc4 hm m4 hN1
     rcases m3 with m3 | m3
     ·
      have p1 := HHK.out.nth m3
      clear m3
      go_wp2_with fail
      rw [HN1.out]
      refine (I9.out _).mono ?_
      rintro e w5 ⟨rfl, rfl⟩
      rw [J9.out]
      go_wp2_with fail
      go_roundg (L - (k + 1))
      case rel => exact ⟨k + 1, rfl, by omega, by go_num, by have h := HHK.out.set m (h - t + 1 + 1) m2; rw [HV.out] at h; rw [M4.out]; exact h, zp HBK.out (Nat.le_refl _) (zd _ _ _ _), HIK.out.grown (fun a ha => by have h := HA3.out a ha; omega) (zd _ _ _ _)⟩
      case measure => have := HGK.out; omega
     have p1 := HHK.out.nth m3
     rw [HV.out] at p1
     clear m3
     go_wp2_with fail
     rw [HN1.out]
     refine (I9.out _).mono ?_
     rintro e w5 ⟨rfl, rfl⟩
     rw [J9.out]
     go_wp2_with fail
     go_roundg (L - (k + 1))
     case rel => exact ⟨k + 1, rfl, by omega, by go_num, by have h := HHK.out.set m (h - t + 1 + 1) m2; rw [HV.out] at h; rw [M4.out]; exact h, zp HBK.out (Nat.le_refl _) (zd _ _ _ _), HIK.out.grown (fun a ha => by have h := HA3.out a ha; omega) (zd _ _ _ _)⟩
     case measure => have := HGK.out; omega
    go_wp2_with fail
    go_roundg (n - (a + 1))
    case rel => exact ⟨a + 1, _, rfl, by omega, by go_num, HK.out, by have h := HHK.out; rw [List.take_of_length_le (by rw [hLn]; exact Nat.le_refl _)] at h; exact h, HBK.out⟩
    case measure => have := HG.out; omega
  | ret hi hh hle hb k =>
   rename_i h
   obtain ⟨b2, o2, hA2, _, _, d0, d1, d2, d3, d4, d5, d6, d7⟩ := (HA.out.below HBR.out).nth hi
   obtain ⟨rfl, rfl⟩ : b = b2 /\ o1 = o2 := by simpa using hA2
   simp only [retI, noW] at d0 d1 d2 d3 d4 d5 d6 d7
   have e9 := HHR.out.nth hh
   obtain ⟨hv, hhv⟩ : ∃ hv : Int, (((h + 1 : Nat)) : Int) = hv := ⟨_, rfl⟩
   obtain ⟨V, hV⟩ : ∃ V : Int, hv - 1 = V := ⟨_, rfl⟩
   have HVV := Lib.hid hV
   rw [hhv] at e9
   have HHV := Lib.hid hhv
   have t1 : ¬ V < 1 := by omega
   have t2 : ¬ 6000 < V - 1 := by omega
   clear hi hA2
   go_wp2_with fail
   rw [<- HX.out]
   have hwa : Below wr.heap.size wr (wr.alloc (.cells #[.int .i64 14, .int .i64 0, .int .i64 0, .string ⟨#[]⟩, .string ⟨#[]⟩, .int .i64 0, .int .i64 0, .string ⟨#[]⟩] 51)) := (Below.refl _ _).alloc (Nat.le_refl _) _
   refine (may_ret _ _ _ _ _).mono ?_
   rintro e w2 ⟨rfl, hb2⟩
   rw [HX.out]
   have q0 := (hb2.cell (p := ⟨wr.heap.size, 0, none⟩) (by simp)).trans (za wr _ _ 0)
   have q1 := (hb2.cell (p := ⟨wr.heap.size, 1, none⟩) (by simp)).trans (za wr _ _ 1)
   simp only [List.getElem?_toArray, List.getElem?_cons_zero, List.getElem?_cons_succ] at q0 q1
   have hb2r := hwa.trans (hb2.mono hwa.size)
   have e9 := (hb2r.cell (p := ⟨wb.heap.size, a, none⟩) hblt).trans e9
   have HH2 := Lib.hid (HHR.out.grow hb2r)
   have HB2 := Lib.hid (HBR.out.trans (hb2r.mono HBR.out.size))
   have hs2 := hb2r.size
   have hs3 : wr.heap.size < w2.heap.size := Nat.lt_of_lt_of_le (by simp) hb2.size
   clear hwa hb2 hb2r
   go_wp2_with fail
   obtain ⟨A3, hA30⟩ : ∃ A3 : Option Addr, A3 = none := ⟨_, rfl⟩
   obtain ⟨L, hL⟩ : ∃ L : Nat, L = 0 := ⟨_, rfl⟩
   obtain ⟨c3, hc30⟩ : ∃ c3 : Nat, c3 = 0 := ⟨_, rfl⟩
   obtain ⟨nx, hnx⟩ : ∃ nx : List Nat, nx = [] := ⟨_, rfl⟩
   have hLn : nx.length = L := by rw [hnx, hL]; rfl
   have hI3 : IntsAt w2 A3 (nx.map (fun m : Nat => (m : Int))).length c3 (nx.map (fun m : Nat => (m : Int))) := by rw [hnx, hc30]; exact ⟨rfl, Nat.le_refl _, by unfold maxLen; omega, fun h => absurd h (by simp)⟩
   have hA3 : ∀ a, A3 = some a -> wb.heap.size + 1 <= a.block := fun a ha => by rw [hA30] at ha; cases ha
   rw [show Value.slice none 0 0 = Value.slice A3 L c3 by rw [hA30, hL, hc30]]
   have HH3 := HH2
   have HB3 := HB2
   have HNX := Lib.hid (show NextOk a n (h) nx H from by rw [hnx]; exact trivial)
   have HK := Lib.hid (show Chk C o (a + 1) (setAll (h) nx H) from by rw [hnx]; exact k)
   have HV := Lib.hid (show (((h : Nat)) : Int) = V from (by have h1 := HHV.out; have h2 := HVV.out; omega))
   have HI3 := Lib.hid (show IntsAt w2 A3 L c3 (nx.map (fun m : Nat => (m : Int))) from by have h := hI3; rw [List.length_map, hLn] at h; exact h)
   have HA3 := Lib.hid hA3
   have hc3 := HI3.out.cap_
   have hLc := HI3.out.le
   have hc63' : c3 <= 9223372036854775807 := by unfold maxLen at hc3; omega
   clear hI3 hA3 hL hnx hc3 hA30 hc30
   obtain ⟨wo, rfl⟩ : ∃ wo : World, wo = wr := ⟨_, rfl⟩
   go_loopg [14] L (fun g i wi => ∃ k : Nat, g = L - k /\ k <= L /\ i = .int .i64 k /\ HiAt w wi wb.heap.size n (setAll (h) (nx.take k) H) /\ Below wb.heap.size wb wi /\ IntsAt wi A3 L c3 (nx.map (fun m : Nat => (m : Int))))
   case atStart => exact ⟨0, by omega, by omega, rfl, HH3.out, HB3.out, HI3.out⟩
   obtain ⟨k, hgk, hkL, rfl, hHk, hbk, hIk⟩ := hrel
   have HGK := Lib.hid hgk
   have HHK := Lib.hid hHk
   have HBK := Lib.hid hbk
   have HIK := Lib.hid hIk
   clear hgk hHk hbk hIk
   have hkL2 : (k : Int) < (L : Int) \/ k = L := by omega
   rcases hkL2 with hkL2 | rfl
   ·
    have hkn : k < nx.length := by omega
    obtain ⟨⟨m1, m2⟩, m3, m4⟩ := next_at nx H HNX.out k hkn
    obtain ⟨b4, o4, rfl, hb4, hc4⟩ := HIK.out.at_ (by omega)
    have p0 := hc4 k (by simpa using hkn)
    rw [List.getElem_map] at p0
    obtain ⟨m, hm⟩ : ∃ m, nx[k] = m := ⟨_, rfl⟩
    rw [hm] at m1 m2 m3 m4 p0
    have M4 := Lib.hid m4
    obtain ⟨N1, hN1⟩ : ∃ N1 : Int, (n : Int) - 1 = N1 := ⟨_, rfl⟩
    have I9 := Lib.hid (fun W => in_any m ((a : Int) + 1) N1 W)
    have J9 := Lib.hid (inB_yes (a := m) (b := (a : Int) + 1) (c := N1) ⟨by omega, by omega⟩)
    have HN1 := Lib.hid hN1
    have hk0 : (0 : Int) <= (k : Int) := Int.natCast_nonneg _
    have hkc : (k : Int) < (c3 : Int) := by omega
    have hm0 : (0 : Int) <= (m : Int) := Int.natCast_nonneg _
    have hmn : (m : Int) < (n : Int) := by omega
    have pf := HHK.out.frozen m
    have hnb : b4 ≠ wb.heap.size := by have h := HA3.out _ rfl; simp at h; omega
    clear hc4 hm m4 hN1
    rcases m3 with m3 | m3
    ·
     have p1 := HHK.out.nth m3
     clear m3
     go_wp2_with fail
     rw [HN1.out]
     refine (I9.out _).mono ?_
     rintro e w5 ⟨rfl, rfl⟩
     rw [J9.out]
     go_wp2_with fail
     go_roundg (L - (k + 1))
     case rel => exact ⟨k + 1, rfl, by omega, by go_num, by have h := HHK.out.set m (h) m2; rw [HV.out] at h; rw [M4.out]; exact h, zp HBK.out (Nat.le_refl _) (zd _ _ _ _), HIK.out.grown (fun a ha => by have h := HA3.out a ha; omega) (zd _ _ _ _)⟩
     case measure => have := HGK.out; omega
    have p1 := HHK.out.nth m3
    rw [HV.out] at p1
    clear m3
    go_wp2_with fail
    rw [HN1.out]
    refine (I9.out _).mono ?_
    rintro e w5 ⟨rfl, rfl⟩
    rw [J9.out]
    go_wp2_with fail
    go_roundg (L - (k + 1))
    case rel => exact ⟨k + 1, rfl, by omega, by go_num, by have h := HHK.out.set m (h) m2; rw [HV.out] at h; rw [M4.out]; exact h, zp HBK.out (Nat.le_refl _) (zd _ _ _ _), HIK.out.grown (fun a ha => by have h := HA3.out a ha; omega) (zd _ _ _ _)⟩
    case measure => have := HGK.out; omega
   go_wp2_with fail
   go_roundg (n - (a + 1))
   case rel => exact ⟨a + 1, _, rfl, by omega, by go_num, HK.out, by have h := HHK.out; rw [List.take_of_length_le (by rw [hLn]; exact Nat.le_refl _)] at h; exact h, HBK.out⟩
   case measure => have := HG.out; omega
  | jump hi hh hb hn hn2 hx k =>
   rename_i h m
   obtain ⟨b2, o2, hA2, _, _, d0, d1, d2, d3, d4, d5, d6, d7⟩ := (HA.out.below HBR.out).nth hi
   obtain ⟨rfl, rfl⟩ : b = b2 /\ o1 = o2 := by simpa using hA2
   simp only [jumpI, noW] at d0 d1 d2 d3 d4 d5 d6 d7
   have e9 := HHR.out.nth hh
   obtain ⟨hv, hhv⟩ : ∃ hv : Int, (((h + 1 : Nat)) : Int) = hv := ⟨_, rfl⟩
   rw [hhv] at e9
   have HHV := Lib.hid hhv
   have t1 : ¬ hv - 1 < 0 := by omega
   have t2 : ¬ 6000 < hv - 1 := by omega
   clear hi hA2
   go_wp2_with fail
   rw [<- HX.out]
   have hwa : Below wr.heap.size wr (wr.alloc (.cells #[.int .i64 15, .int .i64 m, .int .i64 0, .string ⟨#[]⟩, .string ⟨#[]⟩, .int .i64 0, .int .i64 0, .string ⟨#[]⟩] 51)) := (Below.refl _ _).alloc (Nat.le_refl _) _
   refine (may_jump _ _ _ _ _ m (by omega) hn6).mono ?_
   rintro e w2 ⟨rfl, hb2⟩
   rw [HX.out]
   have q0 := (hb2.cell (p := ⟨wr.heap.size, 0, none⟩) (by simp)).trans (za wr _ _ 0)
   have q1 := (hb2.cell (p := ⟨wr.heap.size, 1, none⟩) (by simp)).trans (za wr _ _ 1)
   simp only [List.getElem?_toArray, List.getElem?_cons_zero, List.getElem?_cons_succ] at q0 q1
   have hb2r := hwa.trans (hb2.mono hwa.size)
   have e9 := (hb2r.cell (p := ⟨wb.heap.size, a, none⟩) hblt).trans e9
   have HH2 := Lib.hid (HHR.out.grow hb2r)
   have HB2 := Lib.hid (HBR.out.trans (hb2r.mono HBR.out.size))
   have hs2 := hb2r.size
   have hs3 : wr.heap.size < w2.heap.size := Nat.lt_of_lt_of_le (by simp) hb2.size
   clear hwa hb2 hb2r
   go_upto_region 20 with (at_builtin; refine wpList_int rfl (.tmp 106) (.tmp 109) rfl (OwnAt.start kitI 3 w2.heap.size _) (m : Int) _ rfl rfl rfl (by simp) (by first | exact Nat.le_refl _ | omega | (simp; omega)) ?_; intro v3 w3 hO3 hg3 _)
   have hb23 : Below w2.heap.size w2 w3 := (Below.refl _ _).grown hg3 (Nat.le_refl _) (fun b hb => by cases hb)
   have q0 := (hb23.cell (p := ⟨wr.heap.size, 0, none⟩) hs3).trans q0
   have HH3 := Lib.hid (HH2.out.grow hb23)
   have HB3 := Lib.hid (HB2.out.trans (hb23.mono HB2.out.size))
   clear hg3 hb23
   go_wp2_with fail
   obtain ⟨A3, c3, rfl, hI3, hA3⟩ := hO3.ints
   obtain ⟨nx, hnx⟩ : ∃ nx : List Nat, nx = [m] := ⟨_, rfl⟩
   have hX : [] ++ [(m : Int)] = nx.map (fun m : Nat => (m : Int)) := by rw [hnx]; simp
   rw [hX] at hI3
   have hA3 : ∀ a, A3 = some a -> wb.heap.size + 1 <= a.block := fun a ha => by have h1 := hA3 a ha; have h2 := HH2.out.lt; omega
   obtain ⟨L, hL⟩ : ∃ L, L = ([] ++ [(m : Int)]).length := ⟨_, rfl⟩
   have hLn : nx.length = L := by rw [hL, hX, List.length_map]
   rw [<- hL]
   have HNX := Lib.hid (show NextOk a n (h + 1) nx H from by rw [hnx]; exact ⟨⟨hn, by omega⟩, hx, trivial⟩)
   have HK := Lib.hid (show Chk C o (a + 1) (setAll (h + 1) nx H) from by rw [hnx]; exact k)
   have HV := Lib.hid (show (((h + 1 : Nat)) : Int) = hv from HHV.out)
   have HI3 := Lib.hid (show IntsAt w3 A3 L c3 (nx.map (fun m : Nat => (m : Int))) from by have h := hI3; rw [List.length_map, hLn] at h; exact h)
   have HA3 := Lib.hid hA3
   have hc3 := HI3.out.cap_
   have hLc := HI3.out.le
   have hc63' : c3 <= 9223372036854775807 := by unfold maxLen at hc3; omega
   clear hO3 hI3 hA3 hX hL hnx hc3
   obtain ⟨wo, rfl⟩ : ∃ wo : World, wo = wr := ⟨_, rfl⟩
   go_loopg [14] L (fun g i wi => ∃ k : Nat, g = L - k /\ k <= L /\ i = .int .i64 k /\ HiAt w wi wb.heap.size n (setAll (h + 1) (nx.take k) H) /\ Below wb.heap.size wb wi /\ IntsAt wi A3 L c3 (nx.map (fun m : Nat => (m : Int))))
   case atStart => exact ⟨0, by omega, by omega, rfl, HH3.out, HB3.out, HI3.out⟩
   obtain ⟨k, hgk, hkL, rfl, hHk, hbk, hIk⟩ := hrel
   have HGK := Lib.hid hgk
   have HHK := Lib.hid hHk
   have HBK := Lib.hid hbk
   have HIK := Lib.hid hIk
   clear hgk hHk hbk hIk
   have hkL2 : (k : Int) < (L : Int) \/ k = L := by omega
   rcases hkL2 with hkL2 | rfl
   ·
    have hkn : k < nx.length := by omega
    obtain ⟨⟨m1, m2⟩, m3, m4⟩ := next_at nx H HNX.out k hkn
    obtain ⟨b4, o4, rfl, hb4, hc4⟩ := HIK.out.at_ (by omega)
    have p0 := hc4 k (by simpa using hkn)
    rw [List.getElem_map] at p0
    obtain ⟨m, hm⟩ : ∃ m, nx[k] = m := ⟨_, rfl⟩
    rw [hm] at m1 m2 m3 m4 p0
    have M4 := Lib.hid m4
    obtain ⟨N1, hN1⟩ : ∃ N1 : Int, (n : Int) - 1 = N1 := ⟨_, rfl⟩
    have I9 := Lib.hid (fun W => in_any m ((a : Int) + 1) N1 W)
    have J9 := Lib.hid (inB_yes (a := m) (b := (a : Int) + 1) (c := N1) ⟨by omega, by omega⟩)
    have HN1 := Lib.hid hN1
    have hk0 : (0 : Int) <= (k : Int) := Int.natCast_nonneg _
    have hkc : (k : Int) < (c3 : Int) := by omega
    have hm0 : (0 : Int) <= (m : Int) := Int.natCast_nonneg _
    have hmn : (m : Int) < (n : Int) := by omega
    have pf := HHK.out.frozen m
    have hnb : b4 ≠ wb.heap.size := by have h := HA3.out _ rfl; simp at h; omega
    clear hc4 hm m4 hN1
    rcases m3 with m3 | m3
    ·
     have p1 := HHK.out.nth m3
     clear m3
     go_wp2_with fail
     rw [HN1.out]
     refine (I9.out _).mono ?_
     rintro e w5 ⟨rfl, rfl⟩
     rw [J9.out]
     go_wp2_with fail
     go_roundg (L - (k + 1))
     case rel => exact ⟨k + 1, rfl, by omega, by go_num, by have h := HHK.out.set m (h + 1) m2; rw [HV.out] at h; rw [M4.out]; exact h, zp HBK.out (Nat.le_refl _) (zd _ _ _ _), HIK.out.grown (fun a ha => by have h := HA3.out a ha; omega) (zd _ _ _ _)⟩
     case measure => have := HGK.out; omega
    have p1 := HHK.out.nth m3
    rw [HV.out] at p1
    clear m3
    go_wp2_with fail
    rw [HN1.out]
    refine (I9.out _).mono ?_
    rintro e w5 ⟨rfl, rfl⟩
    rw [J9.out]
    go_wp2_with fail
    go_roundg (L - (k + 1))
    case rel => exact ⟨k + 1, rfl, by omega, by go_num, by have h := HHK.out.set m (h + 1) m2; rw [HV.out] at h; rw [M4.out]; exact h, zp HBK.out (Nat.le_refl _) (zd _ _ _ _), HIK.out.grown (fun a ha => by have h := HA3.out a ha; omega) (zd _ _ _ _)⟩
    case measure => have := HGK.out; omega
   go_wp2_with fail
   go_roundg (n - (a + 1))
   case rel => exact ⟨a + 1, _, rfl, by omega, by go_num, HK.out, by have h := HHK.out; rw [List.take_of_length_le (by rw [hLn]; exact Nat.le_refl _)] at h; exact h, HBK.out⟩
   case measure => have := HG.out; omega
  | else_ hi hh hb hn hn2 hx hx2 k =>
   rename_i h m
   obtain ⟨b2, o2, hA2, _, _, d0, d1, d2, d3, d4, d5, d6, d7⟩ := (HA.out.below HBR.out).nth hi
   obtain ⟨rfl, rfl⟩ : b = b2 /\ o1 = o2 := by simpa using hA2
   simp only [elseI, noW] at d0 d1 d2 d3 d4 d5 d6 d7
   have e9 := HHR.out.nth hh
   obtain ⟨hv, hhv⟩ : ∃ hv : Int, (((h + 1 + 1 : Nat)) : Int) = hv := ⟨_, rfl⟩
   obtain ⟨V, hV⟩ : ∃ V : Int, hv - 1 = V := ⟨_, rfl⟩
   have HVV := Lib.hid hV
   rw [hhv] at e9
   have HHV := Lib.hid hhv
   have t1 : ¬ V < 1 := by omega
   have t2 : ¬ 6000 < V - 1 := by omega
   clear hi hA2
   go_wp2_with fail
   rw [<- HX.out]
   have hwa : Below wr.heap.size wr (wr.alloc (.cells #[.int .i64 16, .int .i64 m, .int .i64 0, .string ⟨#[]⟩, .string ⟨#[]⟩, .int .i64 0, .int .i64 0, .string ⟨#[]⟩] 51)) := (Below.refl _ _).alloc (Nat.le_refl _) _
   refine (may_else _ _ _ _ _ m (by omega) hn6).mono ?_
   rintro e w2 ⟨rfl, hb2⟩
   rw [HX.out]
   have q0 := (hb2.cell (p := ⟨wr.heap.size, 0, none⟩) (by simp)).trans (za wr _ _ 0)
   have q1 := (hb2.cell (p := ⟨wr.heap.size, 1, none⟩) (by simp)).trans (za wr _ _ 1)
   simp only [List.getElem?_toArray, List.getElem?_cons_zero, List.getElem?_cons_succ] at q0 q1
   have hb2r := hwa.trans (hb2.mono hwa.size)
   have e9 := (hb2r.cell (p := ⟨wb.heap.size, a, none⟩) hblt).trans e9
   have HH2 := Lib.hid (HHR.out.grow hb2r)
   have HB2 := Lib.hid (HBR.out.trans (hb2r.mono HBR.out.size))
   have hs2 := hb2r.size
   have hs3 : wr.heap.size < w2.heap.size := Nat.lt_of_lt_of_le (by simp) hb2.size
   clear hwa hb2 hb2r
   go_upto_region 20 with (at_builtin; refine wpList_int rfl (.tmp 106) (.tmp 109) rfl (OwnAt.start kitI 3 w2.heap.size _) (m : Int) _ rfl rfl rfl (by simp) (by first | exact Nat.le_refl _ | omega | (simp; omega)) ?_; intro v3 w3 hO3 hg3 _)
   have hb23 : Below w2.heap.size w2 w3 := (Below.refl _ _).grown hg3 (Nat.le_refl _) (fun b hb => by cases hb)
   have q0 := (hb23.cell (p := ⟨wr.heap.size, 0, none⟩) hs3).trans q0
   have HB23 := Lib.hid hb23
   have HO3 := Lib.hid hO3
   have hs23 := hb23.size
   clear hg3 hb23 hO3
   go_wp2_with (at_builtin; refine wpList_int rfl (.tmp 124) (.tmp 127) rfl HO3.out ((a : Int) + 1) _ rfl rfl rfl (by simp) (by first | exact Nat.le_refl _ | omega | (simp; omega)) ?_; intro v4 w4 hO4 hg4 _)
   have hb24 : Below w2.heap.size w2 w4 := HB23.out.grown hg4 HB23.out.size (fun b hb => (HO3.out.row.lt b hb).1)
   have HH3 := Lib.hid (HH2.out.grow hb24)
   have HB3 := Lib.hid (HB2.out.trans (hb24.mono HB2.out.size))
   have hO3 := hO4
   clear hg4 hb24 hO4
   obtain ⟨A3, c3, rfl, hI3, hA3⟩ := hO3.ints
   obtain ⟨nx, hnx⟩ : ∃ nx : List Nat, nx = [m, a + 1] := ⟨_, rfl⟩
   have hX : [] ++ [(m : Int)] ++ [((a : Int) + 1)] = nx.map (fun m : Nat => (m : Int)) := by rw [hnx]; simp
   rw [hX] at hI3
   have hA3 : ∀ a, A3 = some a -> wb.heap.size + 1 <= a.block := fun a ha => by have h1 := hA3 a ha; have h2 := HH2.out.lt; omega
   obtain ⟨L, hL⟩ : ∃ L, L = ([] ++ [(m : Int)] ++ [((a : Int) + 1)]).length := ⟨_, rfl⟩
   have hLn : nx.length = L := by rw [hL, hX, List.length_map]
   rw [<- hL]
   have HNX := Lib.hid (show NextOk a n (h + 1) nx H from by rw [hnx]; exact ⟨⟨by omega, by omega⟩, hx, ⟨Nat.le_refl _, by omega⟩, (by rw [List.getElem?_set_ne (by omega)]; exact hx2), trivial⟩)
   have HK := Lib.hid (show Chk C o (a + 1) (setAll (h + 1) nx H) from by rw [hnx]; exact k)
   have HV := Lib.hid (show (((h + 1 : Nat)) : Int) = V from (by have h1 := HHV.out; have h2 := HVV.out; omega))
   have HI3 := Lib.hid (show IntsAt w4 A3 L c3 (nx.map (fun m : Nat => (m : Int))) from by have h := hI3; rw [List.length_map, hLn] at h; exact h)
   have HA3 := Lib.hid hA3
   have hc3 := HI3.out.cap_
   have hLc := HI3.out.le
   have hc63' : c3 <= 9223372036854775807 := by unfold maxLen at hc3; omega
   clear hO3 hI3 hA3 hX hL hnx hc3
   obtain ⟨wo, rfl⟩ : ∃ wo : World, wo = wr := ⟨_, rfl⟩
   go_loopg [14] L (fun g i wi => ∃ k : Nat, g = L - k /\ k <= L /\ i = .int .i64 k /\ HiAt w wi wb.heap.size n (setAll (h + 1) (nx.take k) H) /\ Below wb.heap.size wb wi /\ IntsAt wi A3 L c3 (nx.map (fun m : Nat => (m : Int))))
   case atStart => exact ⟨0, by omega, by omega, rfl, HH3.out, HB3.out, HI3.out⟩
   obtain ⟨k, hgk, hkL, rfl, hHk, hbk, hIk⟩ := hrel
   have HGK := Lib.hid hgk
   have HHK := Lib.hid hHk
   have HBK := Lib.hid hbk
   have HIK := Lib.hid hIk
   clear hgk hHk hbk hIk
   have hkL2 : (k : Int) < (L : Int) \/ k = L := by omega
   rcases hkL2 with hkL2 | rfl
   ·
    have hkn : k < nx.length := by omega
    obtain ⟨⟨m1, m2⟩, m3, m4⟩ := next_at nx H HNX.out k hkn
    obtain ⟨b4, o4, rfl, hb4, hc4⟩ := HIK.out.at_ (by omega)
    have p0 := hc4 k (by simpa using hkn)
    rw [List.getElem_map] at p0
    obtain ⟨m, hm⟩ : ∃ m, nx[k] = m := ⟨_, rfl⟩
    rw [hm] at m1 m2 m3 m4 p0
    have M4 := Lib.hid m4
    obtain ⟨N1, hN1⟩ : ∃ N1 : Int, (n : Int) - 1 = N1 := ⟨_, rfl⟩
    have I9 := Lib.hid (fun W => in_any m ((a : Int) + 1) N1 W)
    have J9 := Lib.hid (inB_yes (a := m) (b := (a : Int) + 1) (c := N1) ⟨by omega, by omega⟩)
    have HN1 := Lib.hid hN1
    have hk0 : (0 : Int) <= (k : Int) := Int.natCast_nonneg _
    have hkc : (k : Int) < (c3 : Int) := by omega
    have hm0 : (0 : Int) <= (m : Int) := Int.natCast_nonneg _
    have hmn : (m : Int) < (n : Int) := by omega
    have pf := HHK.out.frozen m
    have hnb : b4 ≠ wb.heap.size := by have h := HA3.out _ rfl; simp at h; omega
    clear hc4 hm m4 hN1
    rcases m3 with m3 | m3
    ·
     have p1 := HHK.out.nth m3
     clear m3
     go_wp2_with fail
     rw [HN1.out]
     refine (I9.out _).mono ?_
     rintro e w5 ⟨rfl, rfl⟩
     rw [J9.out]
     go_wp2_with fail
     go_roundg (L - (k + 1))
     case rel => exact ⟨k + 1, rfl, by omega, by go_num, by have h := HHK.out.set m (h + 1) m2; rw [HV.out] at h; rw [M4.out]; exact h, zp HBK.out (Nat.le_refl _) (zd _ _ _ _), HIK.out.grown (fun a ha => by have h := HA3.out a ha; omega) (zd _ _ _ _)⟩
     case measure => have := HGK.out; omega
    have p1 := HHK.out.nth m3
    rw [HV.out] at p1
    clear m3
    go_wp2_with fail
    rw [HN1.out]
    refine (I9.out _).mono ?_
    rintro e w5 ⟨rfl, rfl⟩
    rw [J9.out]
    go_wp2_with fail
    go_roundg (L - (k + 1))
    case rel => exact ⟨k + 1, rfl, by omega, by go_num, by have h := HHK.out.set m (h + 1) m2; rw [HV.out] at h; rw [M4.out]; exact h, zp HBK.out (Nat.le_refl _) (zd _ _ _ _), HIK.out.grown (fun a ha => by have h := HA3.out a ha; omega) (zd _ _ _ _)⟩
    case measure => have := HGK.out; omega
   go_wp2_with fail
   go_roundg (n - (a + 1))
   case rel => exact ⟨a + 1, _, rfl, by omega, by go_num, HK.out, by have h := HHK.out; rw [List.take_of_length_le (by rw [hLn]; exact Nat.le_refl _)] at h; exact h, HBK.out⟩
   case measure => have := HG.out; omega
 go_wp2_with fail
 go_ret
 exact ⟨rfl, HHR.out.below⟩
end Go.Proofs.YtfhbdlobhjegcaaGreatDoor
