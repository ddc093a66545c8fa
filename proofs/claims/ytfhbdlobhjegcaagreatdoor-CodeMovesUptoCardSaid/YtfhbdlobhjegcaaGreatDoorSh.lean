import Derived.Test.YtfhbdlobhjegcaaGreatDoorGSef
import Derived.Test.YtfhbdlobhjegcaaGreatDoorGSg
namespace Go.Proofs.YtfhbdlobhjegcaaGreatDoor
open Go.RowKit Go.ChangeShapes Go.WideShapes Go.Deep Go.ChangeAt
set_option linter.unusedVariables false
set_option maxRecDepth 20000
structure NsAt (w : World) (A : Option Addr) (len cap : Nat) (ns : List Int) : Prop where
 size : ns.length = len
 le : len <= cap
 cap_ : cap <= maxLen
 at_ : 0 < len -> ∃ b o, A = some ⟨b, o, none⟩ /\ b < w.heap.size /\ ∀ i, (h : i < ns.length) -> w.cell? ⟨b, o + i, none⟩ = some (.int .i64 ns[i])
theorem NsAt.below {w w' : World} {A : Option Addr} {len cap : Nat} {ns : List Int} (h : NsAt w A len cap ns) (hb : Below w.heap.size w w') : NsAt w' A len cap ns :=
 ⟨h.size, h.le, h.cap_, fun h0 => by
  obtain ⟨b, o, hA, hl, hc⟩ := h.at_ h0
  exact ⟨b, o, hA, Nat.lt_of_lt_of_le hl hb.size, fun i hi => (hb.cell (p := ⟨b, o + i, none⟩) hl).trans (hc i hi)⟩⟩
def meI (n : Int) : ME := ⟨⟨1, n, ⟨#[]⟩, none⟩, .int n, 0, 0⟩
def MbPost (w : World) (r : Rs Vl) (e : Ending) (w' : World) : Prop := Below w.heap.size w w' /\ match r with
 | .ok v => e = .returned (.tuple #[.string (shV decB v 1 none), .int .i64 0])
 | .error er => e = .returned (.tuple #[.string ⟨#[]⟩, .int .i64 er])
structure MbLp (w W1 wr : World) (R : Nat) (v : Value) (X : List ME) : Prop where
 below : Below w.heap.size w wr
 le : w.heap.size < R
 lt : R < wr.heap.size
 blk : wr.heap[w.heap.size]? = W1.heap[w.heap.size]?
 c3 : wr.cell? ⟨R, 3, none⟩ = some (.bool true)
 c4 : wr.cell? ⟨R, 4, none⟩ = some (.int .i64 0)
 c5 : wr.cell? ⟨R, 5, none⟩ = some v
 fz : ∀ j, wr.frozen? ⟨R, j, none⟩ = false
 own : OwnAt kitME 98 (R + 1) wr v X
theorem MbLp.step {w W1 wr w3 w7 w8 : World} {R : Nat} {v v' : Value} {X X' : List ME} (h : MbLp w W1 wr R v X) (h3 : Below wr.heap.size wr w3) (h7 : w3.grownBy w7 v.ownBlock) (hO : OwnAt kitME 98 (R + 1) w7 v' X') (h8 : w7.setCell ⟨R, 5, none⟩ v' = w8) : MbLp w W1 w8 R v' X' := by
 have hv : ∀ b, v.ownBlock = some b -> R + 1 <= b := fun b e => (h.own.row.lt b e).1
 have hle := h.le
 have hlt := h.lt
 have s3 := h3.size
 have s7 := h7.size
 have g8 : w7.grownBy w8 (some R) := by rw [<- h8]; exact zd _ _ _ _
 have s8 := g8.size
 have k7 : ∀ b, b < wr.heap.size -> b <= R -> w7.heap[b]? = wr.heap[b]? := fun b hl hR => (h7.block b (by omega) (fun e => by have := hv b e.symm; omega)).trans (h3.block b hl)
 have k8 : ∀ b, b < wr.heap.size -> b < R -> w8.heap[b]? = wr.heap[b]? := fun b hl hR => (g8.block b (by omega) (fun e => by have := Option.some.inj e; omega)).trans (k7 b hl (by omega))
 have kR := k7 R hlt (Nat.le_refl _)
 have kc : ∀ {j u}, wr.cell? ⟨R, j, none⟩ = some u -> w7.cell? ⟨R, j, none⟩ = some u := fun {j u} hu => (World.cell?_of_block (a := ⟨R, j, none⟩) kR).trans hu
 have hb := h.below
 have hbs := hb.size
 refine ⟨⟨(g8.os.trans (h7.os.trans h3.os)).trans hb.os, (g8.tape.trans (h7.tape.trans h3.tape)).trans hb.tape, (g8.output.trans (h7.output.trans h3.output)).trans hb.output, by omega, fun b hl => (k8 b (by omega) (by omega)).trans (hb.block b hl)⟩, hle, by omega, (k8 _ (by omega) hle).trans h.blk, ?_, ?_, ?_, fun j => ?_, hO.other g8 (by omega)⟩
 ·
  rw [<- h8]; exact zg (kc h.c3) (by decide)
 ·
  rw [<- h8]; exact zg (kc h.c4) (by decide)
 ·
  rw [<- h8]; exact zh (kc h.c5)
 rw [<- h8, World.frozen?_setCell, World.frozen?_of_block (a := ⟨R, j, none⟩) kR]; exact h.fz j
theorem own_row {R : Nat} {w : World} {v : Value} {ol : List Int} (h : OwnAt kitME 98 (R + 1) w v (ol.map meI)) : ∃ A cap, v = .slice A ol.length cap /\ ol.length <= cap /\ cap <= maxLen /\ (0 < ol.length -> ∃ b o, A = some ⟨b, o, none⟩ /\ b < w.heap.size /\ b ≠ R /\ ∀ i, (h : i < ol.length) -> RowAt w b (o + i * 4) (⟨1, ol[i], ⟨#[]⟩, none⟩ : MV).cells) := by
 obtain ⟨A, cap, rfl, h1, h2, hr, hA⟩ := h.form
 rw [List.length_map] at h1 hr ⊢
 refine ⟨A, cap, rfl, h1, h2, fun h0 => ?_⟩
 obtain ⟨b, o, rfl, hl, hc⟩ := hr.at_ h0
 have := hA _ rfl
 refine ⟨b, o, rfl, hl, by simp only at this; omega, fun i hi => ?_⟩
 have := (hc i (by simpa using hi)).2
 simpa [kitME, meI] using this
theorem step_me {base : Nat} {ops : Array Oper} {o : Oper} {act : Act} {KK : Act -> World -> Prop} {Q : Exit -> Act -> World -> Prop} {E : Prop} {w : World} (hgd : o.guard = none) (s y : Operand)
  (ho : o.op = .call { callee := .builtin .append, args := #[s, y], argTypes := #[90, 90] })
  {v : Value} {X : List ME} (hO : OwnAt kitME 98 base w v X) (n : Int) (cs : Array Value) (hcs : cs.toList = (meI n).x.cells)
  (hs : act.eval s = v) (hy : act.eval y = .slice (some ⟨w.heap.size, 0, none⟩) 1 1) (hb : X.length + 1 <= 1099511627777) (hbase : base <= w.heap.size)
  (h : ∀ v' w', OwnAt kitME 98 base w' v' (X ++ [meI n]) -> w.grownBy w' v.ownBlock -> KK (act.put o.dst v') w') :
  if Region.wanted o (yielded ops act.tmps) = true then Oper.wp Tryz.prog o act (w.alloc (.cells cs 98)) KK Q else E := by
 obtain ⟨i0, hi, hz0, hz1, hz2⟩ := info_parts infoVal
 exact step_own hgd s y ho Tryz.underlying90 hi hz0 hz1 hz2 rfl (by decide) hO (meI n) cs hcs ⟨.int n, Nat.zero_le _⟩ (fun b hb => by have := hb.2; simp [meI] at this) (fun b hb => by have := hb.2; simp [meI] at this) hs hy (by unfold maxLen; omega) hbase h
set_option maxHeartbeats 8000000 in
theorem movedBy_any {w : World} {cs : List Value} {x : Px} {q : Nat} {ol : List Int} {A : Option Addr} {cap : Nat} (hin : PxIn w cs x q) (hw : PxW ol.length x) (hok : ∀ n ∈ ol, -big <= n /\ n <= big) (hol : ol.length <= 1000) (hcx : countX x <= 16777216) (hA : NsAt w A ol.length cap ol) :
  Calls Tryz.prog 10 #[.agg cs.toArray, .slice A ol.length cap] w (MbPost w (evalX ol x)) := by
 have hev := evalX_ok (o := ol.length) hok rfl x hw
 have hme := meant_any (ol := ol) (countX x) x (Nat.le_refl _)
 have hva := value_any hme
 have hcap := hA.cap_
 have hcap2 : cap <= 9223372036854775807 := by unfold maxLen at hcap; omega
 have hle := hA.le
 obtain ⟨N, hN⟩ : ∃ N, ol.length = N := ⟨_, rfl⟩
 obtain ⟨k, dk, dn, ds, dA, dl, dc, s, n, nA, nl, nc, aA, al, ac, rfl⟩ := hin.form
 obtain ⟨W1, hW1⟩ : ∃ W1, ((w.alloc (.cells #[.int .i64 k, .int .i64 dk, .int .i64 dn, .string ds, .slice dA dl dc, .string s, .int .i64 n, .slice nA nl nc, .slice aA al ac] 28)).alloc (.cells #[.slice none 0 0, .slice none 0 0, .slice none 0 0, .slice none 0 0, .int .i64 0, .int .i64 0] 92)).alloc (.cells #[.pointer (some ⟨w.heap.size + 1, 0, none⟩), .int .i64 0, .int .i64 0, .bool true, .int .i64 0, .slice none 0 0] 95) = W1 := ⟨_, rfl⟩
 have hb1 : Below w.heap.size w W1 := by rw [<- hW1]; exact (((Below.refl _ _).alloc (Nat.le_refl _) _).alloc (by simp) _).alloc (by simp; omega) _
 have hs1 : W1.heap.size = w.heap.size + 1 + 1 + 1 := by rw [<- hW1]; simp
 obtain ⟨R, hR⟩ : ∃ R, w.heap.size + 1 + 1 = R := ⟨_, rfl⟩
 have hr : ∀ j, W1.cell? ⟨R, j, none⟩ = (#[.pointer (some ⟨w.heap.size + 1, 0, none⟩), .int .i64 0, .int .i64 0, .bool true, .int .i64 0, .slice none 0 0] : Array Value)[j]? := fun j => by
  rw [<- hW1, show R = ((w.alloc (.cells #[.int .i64 k, .int .i64 dk, .int .i64 dn, .string ds, .slice dA dl dc, .string s, .int .i64 n, .slice nA nl nc, .slice aA al ac] 28)).alloc (.cells #[.slice none 0 0, .slice none 0 0, .slice none 0 0, .slice none 0 0, .int .i64 0, .int .i64 0] 92)).heap.size by rw [<- hR]; simp]
  exact za _ _ _ j
 have hf : ∀ j, W1.frozen? ⟨R, j, none⟩ = false := fun j => by
  rw [<- hW1, show R = ((w.alloc (.cells #[.int .i64 k, .int .i64 dk, .int .i64 dn, .string ds, .slice dA dl dc, .string s, .int .i64 n, .slice nA nl nc, .slice aA al ac] 28)).alloc (.cells #[.slice none 0 0, .slice none 0 0, .slice none 0 0, .slice none 0 0, .int .i64 0, .int .i64 0] 92)).heap.size by rw [<- hR]; simp]
  exact ze _ _ _ _
 have hx : ∀ j, W1.cell? ⟨w.heap.size, j, none⟩ = (#[.int .i64 k, .int .i64 dk, .int .i64 dn, .string ds, .slice dA dl dc, .string s, .int .i64 n, .slice nA nl nc, .slice aA al ac] : Array Value)[j]? := fun j => by
  rw [<- hW1]
  exact (World.cell?_alloc_lt _ _ ⟨w.heap.size, j, none⟩ (by simp; omega)).trans (cell_first _ _ _ _ _ j)
 have H0 := Lib.hid (show MbLp w W1 W1 R (.slice none 0 0) [] from ⟨hb1, by omega, by omega, rfl, hr 3, hr 4, hr 5, hf, OwnAt.start _ _ _ _⟩)
 have HX := Lib.hid hx
 have HW1 := Lib.hid hW1
 have HA := Lib.hid hA
 have HIN := Lib.hid hin
 have HW := Lib.hid hw
 have HOK := Lib.hid hok
 have HEV := Lib.hid hev
 have HVA := Lib.hid hva
 have HN := Lib.hid hN
 have HCX := Lib.hid hcx
 rw [hN] at hle hol ⊢
 clear hb1 hr hf hx hW1 hA hin hw hok hev hme hva hN hcap hs1 hcx
 go_enter Tryz.func10, Tryz.ntmps10
 go_upto_region 3 with fail
 rw [HW1.out]
 go_wp2_with fail
 go_loopg [8] N (fun g i wr => ∃ (j : Nat) (v : Value), g = N - j /\ j <= N /\ i = .int .i64 j /\ MbLp w W1 wr R v ((ol.take j).map meI))
 case atStart => exact ⟨0, _, by omega, by omega, rfl, by simpa using H0.out⟩
 obtain ⟨j, v, hg, hj, rfl, hlp⟩ := hrel
 have HG := Lib.hid hg
 have HL := Lib.hid hlp
 have c5 := hlp.c5
 have f5 := hlp.fz 5
 have hlt := hlp.lt
 have hbs := hlp.below.size
 obtain ⟨A9, c9, rfl, _⟩ := hlp.own.form
 have hln : ((ol.take j).map meI).length = j := by rw [List.length_map, List.length_take]; have := HN.out; omega
 rw [hln] at c5
 clear hg hlp
 have hjN : (j : Int) < (N : Int) \/ j = N := by omega
 rcases hjN with hjN | rfl
 ·
  have hjl : j < ol.length := by have := HN.out; omega
  obtain ⟨b, o, rfl, hbw, hc⟩ := HA.out.at_ (by omega)
  have xj := (HL.out.below.cell (p := ⟨b, o + j, none⟩) hbw).trans (hc j hjl)
  obtain ⟨m, hm⟩ : ∃ m, ol[j] = m := ⟨_, rfl⟩
  rw [hm] at xj
  have hbR : b < wr.heap.size := by omega
  have hj0 : (0 : Int) <= (j : Int) := Int.natCast_nonneg _
  have hjc : (j : Int) < (cap : Int) := by omega
  have HM := Lib.hid hm
  clear hc hm
  have hln2 : ((ol.take j).map meI).length + 1 <= 1099511627777 := by omega
  have HLN := Lib.hid hln2
  have HLJ := Lib.hid (show ((ol.take j).map meI ++ [meI m]).length = j + 1 by rw [List.length_append, hln]; rfl)
  have HJX := Lib.hid hln
  clear hln2 hln
  go_upto_region 6 with fail
  go_region_law (first
   | (go_simp; go_at_call 25; (with_reducible refine (asInt_any m _).mono ?_); rintro e w2 ⟨rfl, hb2⟩; have H2 := Lib.hid (show Below wr.heap.size wr w2 from ((Below.refl _ _).drew).trans hb2); have c5b : w2.cell? ⟨R, 5, none⟩ = some (.slice A9 j c9) := (H2.out.cell (p := ⟨R, 5, none⟩) hlt).trans c5; have hlt2 : R < w2.heap.size := Nat.lt_of_lt_of_le hlt H2.out.size; clear hb2)
   | (go_simp; go_at_call 24; (with_reducible refine (asVal_any 1 m ⟨#[]⟩ _).mono ?_); rintro e w3 ⟨rfl, hb3⟩; have H3 := Lib.hid (H2.out.trans (hb3.mono H2.out.size)); have c5c : w3.cell? ⟨R, 5, none⟩ = some (.slice A9 j c9) := (H3.out.cell (p := ⟨R, 5, none⟩) hlt).trans c5; have hlt3 : R < w3.heap.size := Nat.lt_of_lt_of_le hlt H3.out.size; clear hb3)
   | (refine step_me (base := R + 1) (by rfl) (.tmp 26) (.tmp 33) (by rfl) (HL.out.own.new H3.out) m _ rfl (by have h := HJX.out; rw [h]; rfl) (by rfl) HLN.out hlt3 ?_; intro v7 w7 h7 h8; have e7 := h8.block R hlt3 (fun e => by have := (HL.out.own.row.lt _ e.symm).1; omega); have c5d := (World.cell?_of_block (a := ⟨R, 5, none⟩) e7).trans c5c; have f5d := (World.frozen?_of_block (a := ⟨R, 5, none⟩) e7).trans ((H3.out.frozen (p := ⟨R, 5, none⟩) hlt).trans f5); obtain ⟨A7, c7, h9, _⟩ := h7.form; rw [HLJ.out] at h9; subst h9; have H7 := Lib.hid h7; have H8 := Lib.hid h8; clear h7 h8 e7))
  all_goals
   go_wp2_with fail
   go_roundg (N - (j + 1))
   case rel => exact ⟨j + 1, _, rfl, by omega, by go_num, by rw [List.take_succ_eq_append_getElem hjl, List.map_append, HM.out]; exact HL.out.step H3.out H8.out H7.out rfl⟩
   case measure => have := HG.out; omega
 have htk : ol.take j = ol := List.take_of_length_le (by rw [HN.out]; exact Nat.le_refl _)
 have hl := HL.out
 rw [htk] at hl
 obtain ⟨A8, c8, hv8, h81, h82, h83⟩ := own_row hl.own
 have hre : RE w wr R A8 c8 ol := ⟨⟨hl.lt, hl.c3, ⟨0, hl.c4⟩, by rw [<- hv8]; exact hl.c5, hl.fz, h81, h82, h83⟩, hl.below, Nat.le_of_lt hl.le, HOK.out⟩
 have KV := Lib.hid (HVA.out w wr R A8 c8 _ q HIN.out HW.out hre)
 have hx : ∀ i, wr.cell? ⟨w.heap.size, i, none⟩ = (#[.int .i64 k, .int .i64 dk, .int .i64 dn, .string ds, .slice dA dl dc, .string s, .int .i64 n, .slice nA nl nc, .slice aA al ac] : Array Value)[i]? := fun i => (World.cell?_of_block (a := ⟨w.heap.size, i, none⟩) hl.blk).trans (HX.out i)
 have x0 := hx 0
 have x1 := hx 1
 have x2 := hx 2
 have x3 := hx 3
 have x4 := hx 4
 have x5 := hx 5
 have x6 := hx 6
 have x7 := hx 7
 have x8 := hx 8
 simp only [List.getElem?_toArray, List.getElem?_cons_zero, List.getElem?_cons_succ] at x0 x1 x2 x3 x4 x5 x6 x7 x8
 have HB := Lib.hid hl.below
 have HLE := Lib.hid hl.le
 clear htk hl hv8 h81 h82 h83 hre hx c5 f5
 go_wp2_with fail
 refine KV.out.mono ?_
 rintro e w5 ⟨k1, n1, s1, p1, er, rfl, hr5, hd⟩
 have hb5 : Below w.heap.size wr w5 := hr5.below hbs (Nat.le_of_lt HLE.out)
 have HB5 := Lib.hid (show Below w.heap.size w w5 from ⟨hb5.os.trans HB.out.os, hb5.tape.trans HB.out.tape, hb5.output.trans HB.out.output, Nat.le_trans HB.out.size hb5.size, fun b hl => (hb5.block b hl).trans (HB.out.block b hl)⟩)
 rcases hd with ⟨v, hv, rfl, hvl⟩ | ⟨hv, hne⟩
 ·
  obtain ⟨w6, hw6⟩ : ∃ w6, w5.alloc (.cells #[.int .i64 k1, .int .i64 n1, .string s1, .pointer p1] 98) = w6 := ⟨_, rfl⟩
  have b6 : Below w5.heap.size w5 w6 := by rw [<- hw6]; exact (Below.refl _ _).alloc (Nat.le_refl _) _
  have z0 : w6.cell? ⟨w5.heap.size, 0, none⟩ = some (.int .i64 k1) := by rw [<- hw6]; exact za _ _ _ 0
  have z1 : w6.cell? ⟨w5.heap.size, 1, none⟩ = some (.int .i64 n1) := by rw [<- hw6]; exact za _ _ _ 1
  have z2 : w6.cell? ⟨w5.heap.size, 2, none⟩ = some (.string s1) := by rw [<- hw6]; exact za _ _ _ 2
  have z3 : w6.cell? ⟨w5.heap.size, 3, none⟩ = some (.pointer p1) := by rw [<- hw6]; exact za _ _ _ 3
  obtain ⟨o1, o2⟩ := HEV.out.1 v hv
  have KS := Lib.hid (shV_any _ v (Nat.le_refl _) w6 wr.heap.size w5.heap.size k1 n1 s1 p1 (some ⟨w.heap.size + 1, 0, none⟩) 1 (hvl.new b6 (Nat.le_refl _)) o1 (by omega) (by have := HCX.out; omega))
  have HB6 := Lib.hid (HB5.out.trans (b6.mono HB5.out.size))
  have HV := Lib.hid hv
  have HW6 := Lib.hid hw6
  clear hv hvl hw6 b6 o1 o2 hr5 hb5 x0 x1 x2 x3 x4 x5 x6 x7 x8
  go_upto_region 10 with fail
  rw [HW6.out]
  go_wp2_with fail
  refine KS.out.mono ?_
  rintro e w7 ⟨rfl, hb7⟩
  have HB7 := Lib.hid (HB6.out.trans (hb7.mono HB6.out.size))
  clear hb7
  go_wp2_with fail
  refine bodyPost_ret (v := .tuple #[.string (shV decB v 1 none), .int .i64 0]) (by simp [results, Tryz.results10, go_sem]) rfl ?_
  refine ⟨HB7.out, ?_⟩
  rw [HV.out]
 have hnb : (er == 0) = false := by simpa using hne
 have HV := Lib.hid hv
 clear hv hne hr5 hb5 x0 x1 x2 x3 x4 x5 x6 x7 x8
 go_wp2_with fail
 refine bodyPost_ret (v := .tuple #[.string ⟨#[]⟩, .int .i64 er]) (by simp [results, Tryz.results10, go_sem]) rfl ?_
 refine ⟨HB5.out.alloc HB5.out.size _, ?_⟩
 rw [HV.out]
end Go.Proofs.YtfhbdlobhjegcaaGreatDoor
