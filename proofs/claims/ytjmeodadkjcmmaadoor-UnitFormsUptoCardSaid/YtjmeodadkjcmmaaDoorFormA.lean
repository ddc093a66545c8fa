import Derived.Test.YtjmeodadkjcmmaaDoorGTree
import Derived.Test.YtjmeodadkjcmmaaDoorShelf
namespace Go.Proofs.YtjmeodadkjcmmaaDoor
open Go.RowKit Go.ChangeShapes Go.WideShapes Go.Deep Go.ChangeAt
set_option linter.unusedVariables false
set_option maxRecDepth 20000
set_option maxHeartbeats 1000000 in
theorem indexSc_any (s : ByteArray) (A : Option Addr) (len cap : Nat) (ss : List ByteArray) (w : World) (hc : cap <= maxLen) (hl : len <= cap) (hA : zb1 w A len ss) :
  Calls Tryd.prog 78 #[.slice A len cap, .string s] w fun e w' => e = .returned (.int .i64 (idxL ss s)) /\ w = w' := by
 have hlen : len <= 9223372036854775807 := by unfold maxLen at hc; omega
 have HA := Lib.hid hA
 clear hA
 go_enter Tryd.func78, Tryd.ntmps78
 go_wp2_with fail
 go_loop [8] (fun i => ∃ k : Nat, k <= len /\ i = .int .i64 k /\ ∀ j, j < k -> (hj : j < ss.length) -> (ss[j].toList == s.toList) = false) (fun i => len - (intOf i).toNat)
 case atStart => exact ⟨0, by omega, rfl, fun j h => absurd h (by omega)⟩
 case round =>
  obtain ⟨k, hk, rfl, hall⟩ := hrel
  have HALL := Lib.hid hall
  clear hall
  by_cases hlt : k < len
  ·
   obtain ⟨b, o, rfl, hbw, hrow⟩ := HA.out.at_ (by omega)
   have hks : k < ss.length := by rw [HA.out.size]; exact hlt
   have hc := hrow k hks
   clear hrow
   cases he : (ss[k].toList == s.toList)
   ·
    have he' : (s.toList == ss[k].toList) = false := by rw [Bool.beq_comm]; exact he
    go_wp2_with fail
    go_round
    case rel =>
     refine ⟨k + 1, by omega, by go_num, fun j hj hj' => ?_⟩
     by_cases hjk : j = k
     ·
      subst hjk; exact he
     exact HALL.out j (by omega) hj'
    case measure => simp [intOf]; omega
   have he' : (s.toList == ss[k].toList) = true := by rw [Bool.beq_comm]; exact he
   go_wp2_with fail
   go_ret
   exact ⟨ret_i (idxL_at hks he HALL.out).symm, rfl⟩
  obtain rfl : k = len := by omega
  go_wp2_with fail
  go_ret
  exact ⟨ret_i (idxL_no (fun j hj => HALL.out j (by rw [<- HA.out.size]; exact hj) hj)).symm, rfl⟩
set_option maxHeartbeats 1000000 in
theorem containsSc_any (s : ByteArray) (A : Option Addr) (len cap : Nat) (ss : List ByteArray) (w : World) (hc : cap <= maxLen) (hl : len <= cap) (hA : zb1 w A len ss) :
  Calls Tryd.prog 65 #[.slice A len cap, .string s] w fun e w' => e = .returned (.bool (inL ss s)) /\ w = w' := by
 go_enter Tryd.func65, Tryd.ntmps65
 go_wp2_with fail
 refine (indexSc_any s A len cap ss _ hc hl hA).mono ?_
 rintro e w1 ⟨rfl, rfl⟩
 go_wp2_with fail
 go_ret
 exact ⟨zp (idxL_in ss s), rfl⟩
theorem infoString : (Tryd.prog.info? 9).map (fun i => (i.zero, i.size, i.bytes)) = some (some (.string ByteArray.empty), 1, 16) := by kernel_rfl
theorem append_types {P : Program} {w : World} {t t2 ty e e2 : TypeId} (h1 : P.underlying t = some (.slice e)) (h2 : P.underlying t2 = some (.slice e2)) (args : Array Value) :
  (Builtin.append_ #[t, t2] ty args).run P w = (Builtin.append_ #[t, t] ty args).run P w := by
 unfold Builtin.append_
 simp only [List.getElem?_toArray, List.getElem?_cons_zero, List.getElem?_cons_succ]
 split
 ·
  rename_i o sT s x heq
  simp only [Prod.mk.injEq, Option.some.injEq] at heq
  obtain ⟨rfl, -, -⟩ := heq
  simp only [Sem.run_bind, run_underlying h1, Result.andThen_ok]
  cases s <;> simp only [Sem.run_bind, run_underlying h1, run_underlying h2, Result.andThen_ok, Sem.run_pure]
 rfl
theorem wpList_strs {w : World} {ops : Array Oper} {rest : List Oper} {o : Oper} {a : Act} {Q : Exit -> Act -> World -> Prop} (hgd : o.guard = none) (s x : Operand) (t t2 : TypeId) (ht : Tryd.prog.underlying t = some (.slice 9)) (ht2 : Tryd.prog.underlying t2 = some (.slice 9))
  (ho : o.op = .call { callee := .builtin .append, args := #[s, x], argTypes := #[t, t2] })
  (base : Nat) (v : Value) (n : Nat) (xs : List Value) (hs : a.eval s = v) (hown : w.ownsRow base 9 1 v n xs)
  (A : Option Addr) (m c : Nat) (names : List ByteArray) (hx : a.eval x = .slice A m c) (hst : zb1 w A m names)
  (hnm : n + m <= 1099511627776) (hbase : base <= w.heap.size)
  (h : ∀ v' w', w'.ownsRow base 9 1 v' (n + m) (xs ++ names.map Value.string) -> w.grownBy w' v.ownBlock -> wpList Tryd.prog ops Q rest (a.put o.dst v') w') : wpList Tryd.prog ops Q (o :: rest) a w := by
 obtain ⟨i0, hi, hz0, hz1, hz2⟩ := info_parts infoString
 refine wpList_plain hgd fun K hK => ?_
 have key : ∃ v' w', (Builtin.append_ #[t, t2] o.type #[v, .slice A m c]).run Tryd.prog w = .ok v' w' /\ w'.ownsRow base 9 1 v' (n + m) (xs ++ names.map Value.string) /\ w.grownBy w' v.ownBlock := by
  rw [append_types ht ht2]
  cases A with
  | none =>
   have hm : m = 0 := by
    rcases Nat.eq_zero_or_pos m with h0 | h0
    ·
     exact h0
    obtain ⟨b, o, hA, _⟩ := hst.at_ h0
    cases hA
   subst hm
   have hnn : names = [] := List.length_eq_zero_iff.1 hst.size
   subst hnn
   refine ⟨v, w, ?_, by simpa using hown, ⟨rfl, rfl, rfl, Nat.le_refl _, fun _ _ _ => rfl⟩⟩
   rcases hown.2 with ⟨rfl, rfl⟩ | ⟨g, cap, cur, rfl, hg, hh, hr⟩
   ·
    simp [Builtin.append_, run_underlying ht, sizeOf, typeInfo, hi, Builtin.lenOf, Builtin.firstCells]
   simp [Builtin.append_, run_underlying ht, sizeOf, typeInfo, hi, Builtin.lenOf, Builtin.firstCells, hr.1, storeCells]
  | some ad =>
   have q1 : ∀ j u, (names.map Value.string)[j]? = some u -> w.cell? (ad.add j) = some u := by
    intro j u hj
    have hjl : j < names.length := by
     have := List.getElem?_eq_some_iff.1 hj
     simpa using this.1
    obtain ⟨b, o', hA, hb, hrow⟩ := hst.at_ (by rw [<- hst.size]; omega)
    cases hA
    have h1 := hrow j hjl
    have h2 : (Addr.add ⟨b, o', none⟩ j) = ⟨b, o' + j, none⟩ := by unfold Addr.add; by_cases h0 : j = 0 <;> simp [h0]
    rw [h2, h1]
    simpa [hjl] using hj
   have q2 : ∀ u ∈ names.map Value.string, u.oneCell' = true := by
    intro u hu
    obtain ⟨s', _, rfl⟩ := List.mem_map.1 hu
    rfl
   obtain ⟨v', w', hr, h1, h2, _, _⟩ := run_append_own_at (P := Tryd.prog) w base t o.type 9 i0 _ 1 16 ht hi hz0 hz1 hz2 rfl (by decide) v n xs hown ad m c (names.map Value.string) (by simp [hst.size]) q1 q2 (by unfold maxLen; omega) (by omega) hbase
   exact ⟨v', w', hr, h1, h2⟩
 obtain ⟨v', w', hr, h2, h3⟩ := key
 unfold Oper.wp execOp
 simp only [ho, resolve, invoke, builtin, Sem.run_bind, Sem.run_pure, Result.andThen_ok, List.map_toArray, List.map_cons, List.map_nil, hs, hx, hr]
 exact hK _ _ (h v' w' h2 h3)
theorem zv {w : World} {base : Nat} {e : TypeId} {size : Nat} {v : Value} {n : Nat} {xs : List Value} (h : w.ownsRow base e size v n xs) : ∀ k, v.ownBlock = some k -> base <= k := fun k hk => (h.lt k hk).1
theorem below_row {w w' : World} {base : Nat} {v : Value} (hb : base <= w.heap.size) (h : w.grownBy w' v.ownBlock) (hv : ∀ k, v.ownBlock = some k -> base <= k) : Below base w w' :=
 (Below.refl _ _).grown h hb hv
set_option maxHeartbeats 1000000 in
theorem cloneSc_any (A : Option Addr) (len cap : Nat) (ss : List ByteArray) (w : World) (hs : zb1 w A len ss) (hl : len <= 1099511627776) :
  Calls Tryd.prog 87 #[.slice A len cap] w fun e w' => ∃ v, e = .returned v /\ w'.ownsRow w.heap.size 9 1 v len (ss.map Value.string) /\ Below w.heap.size w w' := by
 have HS := Lib.hid hs
 have q0 : ∀ (w : World) (a : Option Addr) (n c n' c' : Nat), (binOp .eql 108 (.slice a n c) (.slice none n' c')).run Tryd.prog w = .ok (.bool a.isNone) w := fun w a n c n' c' => Lib.run_eql_slice_nil w _ _ a n c n' c' Tryd.underlying108
 cases A with
 | none =>
  have h0 : len = 0 := by
   rcases Nat.eq_zero_or_pos len with h0 | h0
   ·
    exact h0
   obtain ⟨b, o, hA, _⟩ := hs.at_ h0
   cases hA
  subst h0
  have hss : ss = [] := List.length_eq_zero_iff.1 hs.size
  subst hss
  clear hs
  go_enter Tryd.func87, Tryd.ntmps87
  go_wp2_with fail
  go_ret
  exact ⟨_, rfl, World.ownsRow_nil _ _ _ _, Below.refl _ _⟩
 | some ad =>
  clear hs
  go_enter Tryd.func87, Tryd.ntmps87
  go_wp2_with (at_builtin; refine wpList_strs rfl _ _ _ _ Tryd.underlying108 Tryd.underlying108 rfl w.heap.size _ 0 [] rfl (World.ownsRow_made w #[] 0 (Nat.le_refl _) (Nat.zero_le _) (by simp)) (some ad) len cap ss rfl (HS.out.below ((Below.refl _ _).alloc (Nat.le_refl _) _)) (by omega) (by simp) ?_)
  intro v' w1 hown hgrow
  go_wp2_with fail
  go_ret
  refine ⟨v', rfl, by simpa using hown, ?_⟩
  exact ((Below.refl _ w).alloc (Nat.le_refl _) _).trans (below_row (by simp) hgrow (by intro k hk; simp [Value.ownBlock] at hk; omega))
theorem own_scope {w : World} {base F : Nat} {v : Value} {n : Nat} {ss : List ByteArray} (h : w.ownsRow base 9 1 v n (ss.map Value.string)) (hF : F < base) :
  ∃ A cap, v = .slice A ss.length cap /\ ScAt w F A cap ss /\ ∀ a, A = some a -> base <= a.block := by
 have hl : ss.length = n := by have := h.1; simpa using this
 subst hl
 rcases h.2 with ⟨rfl, hx⟩ | ⟨g, cap, cur, rfl, hg, hh, hr⟩
 ·
  have hn : ss = [] := List.length_eq_zero_iff.1 hx
  subst hn
  exact ⟨none, 0, rfl, ScAt.nil _ _, fun a ha => by cases ha⟩
 ·
  refine ⟨some ⟨g, 0, none⟩, cap, rfl, ⟨⟨rfl, fun _ => ⟨g, 0, rfl, ?_, fun i hi => ?_⟩⟩, hr.1, hr.2.1, fun a ha => by cases ha; exact fun e => by simp at e; omega⟩, fun a ha => by cases ha; exact hg⟩
  ·
   exact (Array.getElem?_eq_some_iff.1 hh).1
  have := h.cellAt i (by omega)
  rw [Nat.zero_add, this]
  simp [hi]
def WithPost (w : World) (F : Nat) (ss : List ByteArray) (e : Ending) (w' : World) : Prop := ∃ A cap, e = .returned (.slice A ss.length cap) /\ ScAt w' F A cap ss /\ Below w.heap.size w w'
set_option maxHeartbeats 1000000 in
theorem with_any (F : Nat) (A : Option Addr) (cap : Nat) (ss : List ByteArray) (B : Option Addr) (n bcap : Nat) (ns : List ByteArray) (w : World) (hs : ScAt w F A cap ss) (hn : zb1 w B n ns) (hl : ss.length + n <= 1099511627776) (hF : F < w.heap.size) :
  Calls Tryd.prog 80 #[.slice A ss.length cap, .slice B n bcap] w (WithPost w F (ss ++ ns)) := by
 have HS := Lib.hid hs
 have HN := Lib.hid hn
 clear hs hn
 go_enter Tryd.func80, Tryd.ntmps80
 go_wp2_with fail
 refine (cloneSc_any A ss.length cap ss w HS.out.strs (by omega)).mono ?_
 rintro e w1 ⟨v, rfl, hown, hb⟩
 have HO := Lib.hid hown
 have HB := Lib.hid hb
 clear hown hb
 go_wp2_with (at_builtin; refine wpList_strs rfl _ _ _ _ Tryd.underlying108 Tryd.underlying23 rfl w.heap.size v ss.length _ rfl HO.out B n bcap ns rfl (HN.out.below HB.out) hl HB.out.size ?_)
 intro v' w2 hown hgrow
 have hb2 := HB.out.trans (below_row HB.out.size hgrow (zv HO.out))
 rw [<- List.map_append] at hown
 obtain ⟨A', cap', rfl, hsc, _⟩ := own_scope hown hF
 have HSC := Lib.hid hsc
 have HB2 := Lib.hid hb2
 have HLN := Lib.hid (show (ss ++ ns).length = ss.length + n by rw [List.length_append, HN.out.size])
 clear hown hgrow hsc hb2
 go_wp2_with fail
 go_ret
 exact ⟨A', cap', rfl, HSC.out, HB2.out⟩
theorem bindB_no {d : Dt} (h : (d.k == 3) = false) : bindB d = false := by unfold bindB; rw [h]; rfl
theorem bindB_yes {d : Dt} (h : (d.k == 3) = true) : bindB d = !resB d.s := by
 unfold bindB resB
 rw [h]
 have : decide (primN d.s.toList < 0) = !decide (0 <= primN d.s.toList) := by
  rw [Bool.eq_iff_iff]; simp
 rw [this]
 cases isKw d.s.toList <;> simp
set_option maxHeartbeats 1000000 in
theorem name_any (d : Dt) (A : Option Addr) (len cap : Nat) (w : World) (hs : d.s.size <= maxLen) (hm : UMaps w) :
  Calls Tryd.prog 61 #[.agg #[.int .i64 d.k, .int .i64 d.n, .string d.s, .slice A len cap]] w fun e w' => e = .returned (.bool (bindB d)) /\ Below w.heap.size w w' := by
 have HM := Lib.hid hm
 clear hm
 have H0 := Lib.hid (bindB_no (d := d))
 have H1 := Lib.hid (bindB_yes (d := d))
 obtain ⟨b, hb⟩ : ∃ b, bindB d = b := ⟨_, rfl⟩
 rw [hb] at H0 H1 ⊢
 clear hb
 obtain ⟨k, n, s, l⟩ := d
 simp only [Dt.k, Dt.n, Dt.s] at *
 cases hk : (k == 3)
 ·
  obtain rfl := H0.out hk
  go_enter Tryd.func61, Tryd.ntmps61
  go_wp2_with fail
  go_ret
  exact ⟨rfl, (Below.refl _ _).alloc (Nat.le_refl _) _⟩
 obtain rfl := H1.out hk
 go_enter Tryd.func61, Tryd.ntmps61
 go_wp2_with fail
 refine (reserved_any s hs _ (HM.out.below ((Below.refl _ _).alloc (Nat.le_refl _) _))).mono ?_
 rintro e w1 ⟨rfl, rfl⟩
 go_wp2_with fail
 go_ret
 exact ⟨rfl, (Below.refl _ _).alloc (Nat.le_refl _) _⟩
theorem grownF_alloc {w w' : World} {F : Nat} (h : w.grownBy w' (some F)) (o : Obj) : w.grownBy (w'.alloc o) (some F) := h.trans (zb ((Below.refl _ _).alloc (Nat.le_refl _) _) _)
theorem grownF_below {w w' w'' : World} {F : Nat} (h : w.grownBy w' (some F)) (hb : Below w'.heap.size w' w'') : w.grownBy w'' (some F) := h.trans (zb hb _)
def evz : EV := ⟨0, 0, 0, ⟨#[]⟩, none, 0, 0, ⟨#[]⟩, 0, none, 0, 0, none, 0, 0, eC dt0, 0, 0⟩
def WrongPost (W0 w : World) (m : Fm) (c : Int) (e : Ending) (w' : World) : Prop := e = .returned evz.agg /\ zx W0 w' m c /\ w.grownBy w' (some m.F)
set_option maxHeartbeats 1000000 in
theorem ze {W0 w : World} {m : Fm} (h : zx W0 w m 0) (c : Int) :
  Calls Tryd.prog 64 #[.pointer (some ⟨m.F, 0, none⟩), .int .i64 c] w (WrongPost W0 w m c) := by
 have H := Lib.hid h
 have c4 := h.c4
 have fz := h.fz 4
 have hlt := h.lt
 have hne := World.new_ne w _ c4
 clear h
 go_enter Tryd.func64, Tryd.ntmps64
 go_wp2_with fail
 exact bodyPost_ret (v := evz.agg) (by simp [results, Tryd.results64, go_sem, evz, EV.agg]) rfl ⟨rfl, (H.out.set c).next ((Below.refl _ _).alloc (Nat.le_refl _) _), grownF_alloc (zd _ _ _ _) _⟩
theorem wrong_idle {W0 w : World} {m : Fm} {e : Int} (h : zx W0 w m e) (he : e ≠ 0) (c : Int) :
  Calls Tryd.prog 64 #[.pointer (some ⟨m.F, 0, none⟩), .int .i64 c] w fun en w' => en = .returned evz.agg /\ Below w.heap.size w w' := by
 have c4 := h.c4
 have fz := h.fz 4
 have hlt := h.lt
 have hne := World.new_ne w _ c4
 have he0 : (e == 0) = false := by simpa using he
 clear h he
 go_enter Tryd.func64, Tryd.ntmps64
 go_wp2_with fail
 exact bodyPost_ret (v := evz.agg) (by simp [results, Tryd.results64, go_sem, evz, EV.agg]) rfl ⟨rfl, (Below.refl _ _).alloc (Nat.le_refl _) _⟩
theorem gcell {W w1 : World} {F : Nat} (hg : W.grownBy w1 (some F)) : (∀ b o, b < W.heap.size -> b ≠ F -> w1.cell? ⟨b, o, none⟩ = W.cell? ⟨b, o, none⟩) /\ (∀ b o, b < W.heap.size -> b ≠ F -> w1.frozen? ⟨b, o, none⟩ = W.frozen? ⟨b, o, none⟩) :=
 ⟨fun b o h hn => World.cell?_of_block (a := ⟨b, o, none⟩) (hg.block b h (fun e => hn (Option.some.inj e))), fun b o h hn => World.frozen?_of_block (a := ⟨b, o, none⟩) (hg.block b h (fun e => hn (Option.some.inj e)))⟩
theorem bcell {W w1 : World} (hb : Below W.heap.size W w1) : (∀ b o, b < W.heap.size -> w1.cell? ⟨b, o, none⟩ = W.cell? ⟨b, o, none⟩) /\ (∀ b o, b < W.heap.size -> w1.frozen? ⟨b, o, none⟩ = W.frozen? ⟨b, o, none⟩) :=
 ⟨fun b o h => hb.cell (p := ⟨b, o, none⟩) h, fun b o h => hb.frozen (p := ⟨b, o, none⟩) h⟩
theorem zx.later {W0 w w2 w' : World} {m : Fm} {e0 c : Int} (h : zx W0 w m e0) (h2 : zx W0 w2 m c) (hg : w.grownBy w2 (some m.F)) (hb : Below w.heap.size w2 w') : zx W0 w' m c /\ w.grownBy w' (some m.F) := by
 have hg' : w.grownBy w' (some m.F) := ⟨hb.os.trans hg.os, hb.tape.trans hg.tape, hb.output.trans hg.output, Nat.le_trans hg.size hb.size, fun k hk hn => (hb.block k hk).trans (hg.block k hk hn)⟩
 have hc : ∀ j, w'.cell? ⟨m.F, j, none⟩ = w2.cell? ⟨m.F, j, none⟩ := fun j => hb.cell (p := ⟨m.F, j, none⟩) h.lt
 exact ⟨⟨h2.below.trans (hb.mono h.below.size), h.ge, Nat.lt_of_lt_of_le h2.lt hb.size, h.maps, (hc 0).trans h2.c0, (hc 1).trans h2.c1, (hc 2).trans h2.c2, (hc 3).trans h2.c3, (hc 4).trans h2.c4,
  fun j => (hb.frozen (p := ⟨m.F, j, none⟩) h.lt).trans (h2.fz j), h.g.grownF hg' h.goff, h.gle, h.gcap, h.goff, h.s.grown hg', h.sle, h.scap, h.o.grownF hg' h.ooff, h.ole, h.ocap, h.ooff⟩, hg'⟩
theorem below9 (B g : Nat) (hB : B <= g) (w : World) (u0 u1 u2 u3 u4 u5 u6 u7 u8 : Value) : Below B w (((((((((w.setCell ⟨g, 0, none⟩ u0).setCell ⟨g, 1, none⟩ u1).setCell ⟨g, 2, none⟩ u2).setCell ⟨g, 3, none⟩ u3).setCell ⟨g, 4, none⟩ u4).setCell ⟨g, 5, none⟩ u5).setCell ⟨g, 6, none⟩ u6).setCell ⟨g, 7, none⟩ u7).setCell ⟨g, 8, none⟩ u8) :=
 (((((((((Below.refl B w).setCell hB _).setCell hB _).setCell hB _).setCell hB _).setCell hB _).setCell hB _).setCell hB _).setCell hB _).setCell hB _
theorem bad_fin {W0 w w2 w' : World} {m : Fm} {c : Int} {o : Obj} (h : zx W0 w m 0) (hF : zx W0 w2 m c) (hg : (w.alloc o).grownBy w2 (some m.F)) (hc : 1 <= c) (v : EV) (hb : Below w.heap.size w2 w') : ExPost W0 w m (.err c) (.returned v.agg) w' := by
 obtain ⟨h1, h2⟩ := h.later hF ((zb ((Below.refl w.heap.size w).alloc (Nat.le_refl _) o) _).trans hg) hb
 exact ⟨v, rfl, hc, h1, h2⟩
theorem dt0_in (W0 : World) : DtIn W0 0 W0.heap.size [.int .i64 0, .int .i64 0, .string ⟨#[]⟩, .slice none 0 0] dt0 :=
 .mk 0 0 ⟨#[]⟩ none 0 [] [] rfl (Nat.le_refl _) (by unfold maxLen; omega) (fun h => absurd h (by simp)) (fun i h => absurd h (by simp))
theorem got_plain {W0 w w' : World} (k dk dn : Int) (ds : ByteArray) (dA : Option Addr) (dl dc : Nat) (d : Dt) (S : ByteArray) (N : Int) (hd : DtIn W0 0 W0.heap.size [.int .i64 dk, .int .i64 dn, .string ds, .slice dA dl dc] d) (hb : Below w.heap.size w w') :
  GotEx W0 w (.mk k d S N [] []) (.returned (.agg #[.int .i64 k, .int .i64 dk, .int .i64 dn, .string ds, .slice dA dl dc, .string S, .int .i64 N, .slice none 0 0, .slice none 0 0])) w' :=
 ⟨⟨k, dk, dn, ds, dA, dl, dc, S, N, none, 0, 0, none, 0, 0, .mk k d S N [] [], w.heap.size, w'.heap.size⟩, rfl, rfl, rfl, rfl,
  ⟨.mk k dk dn ds dA dl dc d hd S N none 0 [] (NmIn.nil _ _ _) none 0 [] [] rfl (Nat.le_refl _) (by unfold maxLen; omega) (fun h => absurd h (by simp)) (fun i h => absurd h (by simp)), Nat.le_refl _⟩, hb⟩
theorem named_local {p : Pl} {ls : List ByteArray} {s : ByteArray} (h : inL ls s = true) : namedF p ls s = .ok (eK 2 s []) := by unfold namedF; rw [if_pos h]
theorem resB_iff {s : ByteArray} : resB s = true ↔ isKw s.toList = true \/ 0 <= primN s.toList := by unfold resB; simp
theorem named_res {p : Pl} {ls : List ByteArray} {s : ByteArray} (h : inL ls s = false) (h2 : resB s = true) : namedF p ls s = .err 4 := by
 unfold namedF; rw [if_neg (by rw [h]; simp), if_pos (resB_iff.1 h2)]
theorem named_up {p : Pl} {ls : List ByteArray} {s : ByteArray} (h : inL ls s = false) (h2 : resB s = false) (h3 : p.up = true) : namedF p ls s = .err 15 := by
 unfold namedF; rw [if_neg (by rw [h]; simp), if_neg (fun h => by rw [resB_iff.2 h] at h2; cases h2), if_pos h3]
theorem named_glob {p : Pl} {ls : List ByteArray} {s : ByteArray} (h : inL ls s = false) (h2 : resB s = false) (h3 : p.up = false) (h4 : inL p.globals s = true) : namedF p ls s = .ok (eK 3 s []) := by
 unfold namedF; rw [if_neg (by rw [h]; simp), if_neg (fun h => by rw [resB_iff.2 h] at h2; cases h2), if_neg (by rw [h3]; simp), if_pos h4]
theorem named_none {p : Pl} {ls : List ByteArray} {s : ByteArray} (h : inL ls s = false) (h2 : resB s = false) (h3 : p.up = false) (h4 : inL p.globals s = false) : namedF p ls s = .err 6 := by
 unfold namedF; rw [if_neg (by rw [h]; simp), if_neg (fun h => by rw [resB_iff.2 h] at h2; cases h2), if_neg (by rw [h3]; simp), if_neg (by rw [h4]; simp)]
set_option maxHeartbeats 2000000 in
theorem variable_any {W0 w : World} {m : Fm} (h : zx W0 w m 0) (s : ByteArray) (hs : s.size <= maxLen) (A : Option Addr) (cap : Nat) (ls : List ByteArray) (hsc : ScAt w m.F A cap ls) :
  Calls Tryd.prog 63 #[.pointer (some ⟨m.F, 0, none⟩), .string s, .slice A ls.length cap] w (ExPost W0 w m (namedF m.pl ls s)) := by
 obtain ⟨r, hr⟩ : ∃ r, namedF m.pl ls s = r := ⟨_, rfl⟩
 have HR := Lib.hid hr
 have H := Lib.hid h
 have HS := Lib.hid hsc
 rw [hr]
 have c0 := h.c0
 have c3 := h.c3
 obtain ⟨up, hup⟩ : ∃ up, m.up = up := ⟨_, rfl⟩
 rw [hup] at c3
 have HU := Lib.hid (show m.pl.up = up from hup)
 have hlt := h.lt
 have hne := World.new_ne w _ c0
 clear h hsc hr hup
 have NX := fun o => (H.out.next ((Below.refl w.heap.size w).alloc (Nat.le_refl _) o))
 have HN := Lib.hid NX
 clear NX
 go_enter Tryd.func63, Tryd.ntmps63
 go_wp2_with fail
 refine (containsSc_any s A ls.length cap ls _ HS.out.cap_ HS.out.le (HS.out.below ((Below.refl _ _).alloc (Nat.le_refl _) _)).strs).mono ?_
 rintro e w1 ⟨rfl, rfl⟩
 cases h1 : inL ls s
 case true =>
  obtain rfl : r = .ok (eK 2 s []) := by rw [<- HR.out]; exact named_local h1
  clear h1
  go_wp2_with fail
  exact bodyPost_ret (by simp [results, Tryd.results63, go_sem]) rfl (got_plain 2 0 0 _ none 0 0 dt0 s 0 (dt0_in W0) ((Below.refl _ _).alloc (Nat.le_refl _) _))
 have H1 := Lib.hid h1
 clear h1
 go_wp2_with fail
 refine (reserved_any s hs _ (HN.out _).umaps).mono ?_
 rintro e w1 ⟨rfl, rfl⟩
 cases h2 : resB s
 case true =>
  obtain rfl : r = .err 4 := by rw [<- HR.out]; exact named_res H1.out h2
  clear h2
  go_wp2_with fail
  refine (ze (HN.out _) 4).mono ?_
  rintro e w2 ⟨rfl, hF, hg⟩
  obtain ⟨g1, g2⟩ := gcell hg
  have HF := Lib.hid hF
  have HG := Lib.hid hg
  have hsz : w.heap.size < w2.heap.size := Nat.lt_of_lt_of_le (by simp) hg.size
  clear hF hg
  unfold evz EV.agg
  go_wp2_with fail
  exact bodyPost_ret (v := evz.agg) (by simp [results, Tryd.results63, go_sem, evz, EV.agg, g1, hne]) rfl (bad_fin H.out HF.out HG.out (by decide) evz (below9 _ _ (Nat.le_refl _) _ _ _ _ _ _ _ _ _ _))
 have H2 := Lib.hid h2
 clear h2
 cases up
 case true =>
  obtain rfl : r = .err 15 := by rw [<- HR.out]; exact named_up H1.out H2.out HU.out
  go_wp2_with fail
  refine (ze (HN.out _) 15).mono ?_
  rintro e w2 ⟨rfl, hF, hg⟩
  obtain ⟨g1, g2⟩ := gcell hg
  have HF := Lib.hid hF
  have HG := Lib.hid hg
  have hsz : w.heap.size < w2.heap.size := Nat.lt_of_lt_of_le (by simp) hg.size
  clear hF hg
  unfold evz EV.agg
  go_wp2_with fail
  exact bodyPost_ret (v := evz.agg) (by simp [results, Tryd.results63, go_sem, evz, EV.agg, g1, hne]) rfl (bad_fin H.out HF.out HG.out (by decide) evz (below9 _ _ (Nat.le_refl _) _ _ _ _ _ _ _ _ _ _))
 go_wp2_with fail
 refine (contains_any s m.G m.gl m.gc m.gs _ H.out.gcap H.out.gle (HN.out _).g).mono ?_
 rintro e w1 ⟨rfl, rfl⟩
 cases h4 : inL m.gs s
 case true =>
  obtain rfl : r = .ok (eK 3 s []) := by rw [<- HR.out]; exact named_glob H1.out H2.out HU.out h4
  clear h4
  go_wp2_with fail
  exact bodyPost_ret (by simp [results, Tryd.results63, go_sem]) rfl (got_plain 3 0 0 _ none 0 0 dt0 s 0 (dt0_in W0) ((Below.refl _ _).alloc (Nat.le_refl _) _))
 obtain rfl : r = .err 6 := by rw [<- HR.out]; exact named_none H1.out H2.out HU.out h4
 clear h4
 go_wp2_with fail
 refine (ze (HN.out _) 6).mono ?_
 rintro e w2 ⟨rfl, hF, hg⟩
 obtain ⟨g1, g2⟩ := gcell hg
 have HF := Lib.hid hF
 have HG := Lib.hid hg
 have hsz : w.heap.size < w2.heap.size := Nat.lt_of_lt_of_le (by simp) hg.size
 clear hF hg
 unfold evz EV.agg
 go_wp2_with fail
 exact bodyPost_ret (v := evz.agg) (by simp [results, Tryd.results63, go_sem, evz, EV.agg, g1, hne]) rfl (bad_fin H.out HF.out HG.out (by decide) evz (below9 _ _ (Nat.le_refl _) _ _ _ _ _ _ _ _ _ _))
end Go.Proofs.YtjmeodadkjcmmaaDoor
