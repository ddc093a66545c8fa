import Derived.Test.YtjmeodadkjcmmaaDoorFormA
namespace Go.Proofs.YtjmeodadkjcmmaaDoor
open Go.RowKit Go.ChangeShapes Go.WideShapes Go.Deep Go.ChangeAt
set_option linter.unusedVariables false
set_option maxRecDepth 20000
def kitS : Kit ByteArray where
 k := 1
 cells s := [.string s]
 len x := rfl
 one x u hu := by
  simp only [List.mem_cons, List.not_mem_nil, or_false] at hu
  subst hu; rfl
 ok w x := True
 uses x b := False
 lt w x b h hb := hb.elim
 kept w w' x row h hg hn := trivial
theorem flat_s : (X : List ByteArray) -> (X.map kitS.cells).flatten = X.map Value.string
 | [] => rfl
 | x :: X => by rw [List.map_cons, List.flatten_cons, flat_s X]; rfl
theorem OwnAt.strs {ty : TypeId} {base : Nat} {w : World} {v : Value} {X : List ByteArray} (h : OwnAt kitS ty base w v X) : w.ownsRow base ty 1 v X.length (X.map Value.string) := by
 have := h.row
 rwa [flat_s] at this
theorem own_names {w : World} {base lo F : Nat} {v : Value} {ss : List ByteArray} (h : OwnAt kitS 9 base w v ss) (hF : F < base) (hlo : lo <= base) :
  ∃ A cap, v = .slice A ss.length cap /\ ScAt w F A cap ss /\ NmIn w lo w.heap.size A cap ss := by
 obtain ⟨A, cap, rfl, h1, h2⟩ := own_scope h.strs hF
 refine ⟨A, cap, rfl, h1, h1.le, h1.cap_, fun h0 => ?_⟩
 obtain ⟨b, o, rfl, hb, hr⟩ := h1.strs.at_ h0
 exact ⟨b, o, rfl, Nat.le_trans hlo (h2 _ rfl), hb, hb, hr⟩
theorem bind_ok {l : List Dt} {k : Nat} {X : List ByteArray} (hk : k < l.length) (h : bindF [] (l.take k) = .ok X) (hb : bindB l[k] = true) (hi : inL X l[k].s = false) : bindF [] (l.take (k + 1)) = .ok (X ++ [l[k].s]) := by
 rw [List.take_succ_eq_append_getElem hk]
 have : ∀ (m : List Dt) (o : List ByteArray), bindF o m = .ok X -> bindF o (m ++ [l[k]]) = .ok (X ++ [l[k].s]) := by
  intro m
  induction m with
  | nil => intro o ho; simp only [bindF] at ho; cases ho; simp [bindF, hb, hi]
  | cons d m ih =>
   intro o ho
   simp only [bindF, List.cons_append] at ho ⊢
   by_cases h1 : bindB d = true
   ·
    by_cases h2 : inL o d.s = true
    ·
     simp [h1, h2] at ho
    simp only [h1, h2, if_true] at ho ⊢
    exact ih _ ho
   simp [h1] at ho
 exact this _ _ h
theorem bind_err {l : List Dt} {k : Nat} {X : List ByteArray} {c : Int} (hk : k < l.length) (h : bindF [] (l.take k) = .ok X) (hb : (if bindB l[k] = true then (if inL X l[k].s = true then .err 7 else .ok X) else .err 4 : Fd (List ByteArray)) = .err c) : bindF [] l = .err c := by
 have : ∀ (m r : List Dt) (o : List ByteArray), bindF o m = .ok X -> bindF o (m ++ l[k] :: r) = .err c := by
  intro m r
  induction m with
  | nil =>
   intro o ho
   simp only [bindF] at ho
   cases ho
   simp only [List.nil_append, bindF]
   by_cases h1 : bindB l[k] = true
   ·
    by_cases h2 : inL X l[k].s = true
    ·
     simp only [h1, h2, if_true] at hb ⊢
     cases hb; rfl
    simp [h1, h2] at hb
   simp only [h1] at hb ⊢
   cases hb; rfl
  | cons d m ih =>
   intro o ho
   simp only [bindF, List.cons_append] at ho ⊢
   by_cases h1 : bindB d = true
   ·
    by_cases h2 : inL o d.s = true
    ·
     simp [h1, h2] at ho
    simp only [h1, h2, if_true] at ho ⊢
    exact ih _ ho
   simp [h1] at ho
 have h2 := this (l.take k) (l.drop (k + 1)) [] h
 rwa [<- List.drop_eq_getElem_cons hk, List.take_append_drop] at h2
def NmMode (W0 w : World) (m : Fm) (l : List Dt) (X : List ByteArray) (wr : World) (k : Nat) : Prop :=
 (bindF [] (l.take k) = .ok X /\ Below w.heap.size w wr) \/ (∃ c, bindF [] l = .err c /\ 1 <= c /\ zx W0 wr m c /\ w.grownBy wr (some m.F))
def NamesPost (W0 w : World) (m : Fm) (r : Fd (List ByteArray)) (e : Ending) (w' : World) : Prop := match r with
 | .ok ns => ∃ A cap, e = .returned (.slice A ns.length cap) /\ NmIn w' w.heap.size w'.heap.size A cap ns /\ ScAt w' m.F A cap ns /\ Below w.heap.size w w'
 | .err c => ∃ A cap ss, e = .returned (.slice A ss.length cap) /\ ScAt w' m.F A cap ss /\ ss.length <= 6 /\ 1 <= c /\ zx W0 w' m c /\ w.grownBy w' (some m.F)
theorem NmMode.bad {W0 w w2 w5 : World} {m : Fm} {l : List Dt} {X : List ByteArray} {k : Nat} {c : Int} (hc : bindF [] l = .err c) (h1 : 1 <= c) (h : zx W0 w m 0) (h2 : zx W0 w2 m c) (hg : w.grownBy w2 (some m.F)) (hb : Below w.heap.size w2 w5) : NmMode W0 w m l X w5 k :=
 Or.inr ⟨c, hc, h1, (h.later h2 hg hb).1, (h.later h2 hg hb).2⟩
theorem wpList_s {base : Nat} {ops : Array Oper} {rest : List Oper} {o : Oper} {act : Act} {Q : Exit -> Act -> World -> Prop} {w : World} (hgd : o.guard = none) (s y : Operand)
  (ho : o.op = .call { callee := .builtin .append, args := #[s, y], argTypes := #[23, 23] })
  {v : Value} {X : List ByteArray} (hO : OwnAt kitS 9 base w v X) (x : ByteArray) (cs : Array Value) (hcs : cs.toList = kitS.cells x)
  (hs : act.eval s = v) (hy : act.eval y = .slice (some ⟨w.heap.size, 0, none⟩) 1 1) (hb : X.length + 1 <= 1048577) (hbase : base <= w.heap.size)
  (h : ∀ v' w', OwnAt kitS 9 base w' v' (X ++ [x]) -> w.grownBy w' v.ownBlock -> wpList Tryd.prog ops Q rest (act.put o.dst v') w') : wpList Tryd.prog ops Q (o :: rest) act (w.alloc (.cells cs 9)) := by
 obtain ⟨i0, hi, hz0, hz1, hz2⟩ := info_parts infoString
 exact wpList_own hgd s y ho Tryd.underlying23 hi hz0 hz1 hz2 rfl (by decide) hO x cs hcs trivial (fun b hb => hb.elim) (fun b hb => hb.elim) hs hy (by unfold maxLen; omega) hbase (fun v' w' h1 h2 _ => h v' w' h1 h2)
set_option maxHeartbeats 4000000 in
theorem names_any {W0 w : World} {m : Fm} (h : zx W0 w m 0) (k n : Int) (s : ByteArray) (A : Option Addr) (cap : Nat) (l : List Dt) (hl : DsAt W0 w m.F A cap l) (hs : ∀ x ∈ l, x.s.size <= maxLen) :
  Calls Tryd.prog 45 #[.pointer (some ⟨m.F, 0, none⟩), .agg #[.int .i64 k, .int .i64 n, .string s, .slice A l.length cap]] w (NamesPost W0 w m (boundF k l)) := by
 have HL := Lib.hid hl
 have H := Lib.hid h
 have HS := Lib.hid hs
 have hlt := h.lt
 have hne := World.new_ne w _ h.c0
 have hlen : l.length <= 9223372036854775807 := by have := hl.le; have := hl.cap_; unfold maxLen at this; omega
 clear h hl hs
 by_cases hk : k = 4
 case neg =>
  have hk2 : (k != 4) = true := by simpa using hk
  have e : boundF k l = .err 4 := by unfold boundF; rw [if_neg hk]
  rw [e]
  clear e hk
  go_enter Tryd.func45, Tryd.ntmps45
  go_wp2_with fail
  refine (ze (H.out.next ((Below.refl _ _).alloc (Nat.le_refl _) _)) 4).mono ?_
  rintro e w2 ⟨rfl, hF, hg⟩
  have HF := Lib.hid hF
  have HG := Lib.hid hg
  clear hF hg
  go_wp2_with fail
  go_ret
  exact ⟨none, 0, [], rfl, ScAt.nil _ _, by simp, by decide, HF.out, (zb ((Below.refl w.heap.size w).alloc (Nat.le_refl _) _) _).trans HG.out⟩
 subst hk
 by_cases h6 : 6 < l.length
 case pos =>
  have e : boundF 4 l = .err 10 := by unfold boundF; rw [if_pos rfl, if_pos h6]
  rw [e]
  clear e
  go_enter Tryd.func45, Tryd.ntmps45
  go_wp2_with fail
  refine (ze (H.out.next ((Below.refl _ _).alloc (Nat.le_refl _) _)) 10).mono ?_
  rintro e w2 ⟨rfl, hF, hg⟩
  have HF := Lib.hid hF
  have HG := Lib.hid hg
  clear hF hg
  go_wp2_with fail
  go_ret
  exact ⟨none, 0, [], rfl, ScAt.nil _ _, by simp, by decide, HF.out, (zb ((Below.refl w.heap.size w).alloc (Nat.le_refl _) _) _).trans HG.out⟩
 have HE := Lib.hid (show boundF 4 l = bindF [] l by unfold boundF; rw [if_pos rfl, if_neg h6])
 obtain ⟨N, hN⟩ : ∃ N, l.length = N := ⟨_, rfl⟩
 have HN := Lib.hid hN
 rw [hN] at h6 hlen ⊢
 have hN6 : N <= 6 := by omega
 clear hN h6
 go_enter Tryd.func45, Tryd.ntmps45
 go_wp2_with fail
 go_loopg [5, 22] N (fun g v i wr => ∃ (j : Nat) (X : List ByteArray), g = N - j /\ j <= N /\ i = .int .i64 j /\ X.length = j /\ OwnAt kitS 9 w.heap.size wr v X /\ NmMode W0 w m l X wr j)
 case atStart => exact ⟨0, [], by omega, by omega, rfl, rfl, OwnAt.start _ _ _ _, Or.inl ⟨rfl, (Below.refl _ _).alloc (Nat.le_refl _) _⟩⟩
 obtain ⟨j, X, hg, hj, rfl, hX, hO, hM⟩ := hrel
 have HG := Lib.hid hg
 have HO := Lib.hid hO
 have HX := Lib.hid hX
 clear hg hO hX
 by_cases hlt2 : j < N
 ·
  have hjl : j < l.length := by rw [HN.out]; exact hlt2
  rcases hM with ⟨hb, hbl⟩ | ⟨c, hc, hc1, hF, hgr⟩
  ·
   have HBD := Lib.hid hb
   have HBL := Lib.hid hbl
   have HF := Lib.hid (H.out.next hbl)
   obtain ⟨b, o, rfl, hbw, hbF, cs, hrow, hd⟩ := (HL.out.below hbl).nth j hjl
   have HBO := Lib.hid (fun (c : Int) (hc : (if bindB l[j] = true then (if inL X l[j].s = true then .err 7 else .ok X) else .err 4 : Fd (List ByteArray)) = .err c) => bind_err hjl hb hc)
   have HBK := Lib.hid (fun h1 h2 => bind_ok hjl hb h1 h2)
   have hds := HS.out l[j] (List.getElem_mem hjl)
   obtain ⟨A', c', rfl, _⟩ := hd.items HF.out.below HF.out.ge
   generalize l[j] = d at hrow hd hds HBO HBK
   have c0 : wr.cell? ⟨b, o + j * 4, none⟩ = some (.int .i64 d.k) := hrow 0 (by simp)
   have c1 : wr.cell? ⟨b, o + j * 4 + 1, none⟩ = some (.int .i64 d.n) := hrow 1 (by simp)
   have c2 : wr.cell? ⟨b, o + j * 4 + 2, none⟩ = some (.string d.s) := hrow 2 (by simp)
   have c3 : wr.cell? ⟨b, o + j * 4 + 3, none⟩ = some (.slice A' d.l.length c') := hrow 3 (by simp)
   obtain ⟨v', cp, rfl, hXc, hcm, _⟩ := HO.out.form
   have hXj : X.length + 1 <= 10 := by rw [HX.out]; omega
   have hxw : X.length <= cp := hXc
   have hneF : wr.heap.size ≠ m.F := by have := HF.out.lt; omega
   clear hd hrow
   go_wp2_with fail
   refine (name_any d A' d.l.length c' _ hds (HF.out.next ((Below.refl _ _).alloc (Nat.le_refl _) _)).umaps).mono ?_
   rintro e w1 ⟨rfl, hb1⟩
   obtain ⟨g1, g2⟩ := bcell hb1
   have hs1 : wr.heap.size < w1.heap.size := Nat.lt_of_lt_of_le (by simp) hb1.size
   have HB1 := Lib.hid (((Below.refl wr.heap.size wr).alloc (Nat.le_refl _) (.cells #[.int .i64 d.k, .int .i64 d.n, .string d.s, .slice A' d.l.length c'] 38)).trans (hb1.mono (by simp)))
   have HF1 := Lib.hid (HF.out.next HB1.out)
   have HO1 := Lib.hid (HO.out.new HB1.out)
   clear hb hbl
   clear hb1
   cases hbb : bindB d
   case false =>
    have HBE := Lib.hid (HBO.out 4 (by rw [hbb]; rfl))
    clear hbb
    go_wp2_with fail
    refine (ze HF1.out 4).mono ?_
    rintro e w2 ⟨rfl, hF2, hg2⟩
    obtain ⟨g3, g4⟩ := gcell hg2
    have hs2 : wr.heap.size < w2.heap.size := Nat.lt_of_lt_of_le hs1 hg2.size
    have HF2 := Lib.hid hF2
    have HG2 := Lib.hid ((zb HB1.out _).trans hg2)
    have HO2 := Lib.hid (HO1.out.other hg2 H.out.lt)
    clear hF2 hg2
    go_wp2_with (at_builtin; refine wpList_s rfl (.tmp 39) (.tmp 42) rfl HO2.out d.s _ rfl rfl rfl (by omega) (Nat.le_trans HBL.out.size HG2.out.size) ?_; intro v5 w5 h5 h6)
    have HO5 := Lib.hid h5
    have HB5 := Lib.hid (below_row (base := w.heap.size) (Nat.le_trans HBL.out.size HG2.out.size) h6 (zv HO2.out.row))
    clear h5 h6
    go_wp2_with fail
    go_roundg (N - (j + 1))
    case measure => have := HG.out; omega
    case rel => exact ⟨j + 1, X ++ [d.s], rfl, by omega, by go_num, by simp [HX.out], HO5.out, NmMode.bad HBE.out (by decide) H.out HF2.out ((zb HBL.out _).trans HG2.out) HB5.out⟩
   go_wp2_with fail
   obtain ⟨A6, cp6, hv6, hsc6, _⟩ := own_scope HO1.out.strs H.out.lt
   obtain ⟨rfl, rfl⟩ : v' = A6 /\ cp = cp6 := by simpa using hv6
   refine (contains_any d.s v' X.length cp X _ hsc6.cap_ hsc6.le hsc6.strs).mono ?_
   rintro e w1' ⟨rfl, rfl⟩
   clear hsc6 hv6
   cases hii : inL X d.s
   case true =>
    have HBE := Lib.hid (HBO.out 7 (by rw [hbb, hii]; rfl))
    clear hbb hii
    go_wp2_with fail
    refine (ze HF1.out 7).mono ?_
    rintro e w2 ⟨rfl, hF2, hg2⟩
    obtain ⟨g3, g4⟩ := gcell hg2
    have hs2 : wr.heap.size < w2.heap.size := Nat.lt_of_lt_of_le hs1 hg2.size
    have HF2 := Lib.hid hF2
    have HG2 := Lib.hid ((zb HB1.out _).trans hg2)
    have HO2 := Lib.hid (HO1.out.other hg2 H.out.lt)
    clear hF2 hg2
    go_wp2_with (at_builtin; refine wpList_s rfl (.tmp 39) (.tmp 42) rfl HO2.out d.s _ rfl rfl rfl (by omega) (Nat.le_trans HBL.out.size HG2.out.size) ?_; intro v5 w5 h5 h6)
    have HO5 := Lib.hid h5
    have HB5 := Lib.hid (below_row (base := w.heap.size) (Nat.le_trans HBL.out.size HG2.out.size) h6 (zv HO2.out.row))
    clear h5 h6
    go_wp2_with fail
    go_roundg (N - (j + 1))
    case measure => have := HG.out; omega
    case rel => exact ⟨j + 1, X ++ [d.s], rfl, by omega, by go_num, by simp [HX.out], HO5.out, NmMode.bad HBE.out (by decide) H.out HF2.out ((zb HBL.out _).trans HG2.out) HB5.out⟩
   have HBE := Lib.hid (HBK.out hbb hii)
   clear hbb hii
   go_wp2_with (at_builtin; refine wpList_s rfl (.tmp 39) (.tmp 42) rfl HO1.out d.s _ rfl rfl rfl (by omega) (Nat.le_trans HBL.out.size HB1.out.size) ?_; intro v5 w5 h5 h6)
   have HO5 := Lib.hid h5
   have HB5 := Lib.hid (below_row (base := w.heap.size) (Nat.le_trans HBL.out.size HB1.out.size) h6 (zv HO1.out.row))
   clear h5 h6
   go_wp2_with fail
   go_roundg (N - (j + 1))
   case measure => have := HG.out; omega
   case rel => exact ⟨j + 1, X ++ [d.s], rfl, by omega, by go_num, by simp [HX.out], HO5.out, Or.inl ⟨HBE.out, (HBL.out.trans (HB1.out.mono HBL.out.size)).trans HB5.out⟩⟩
  have HC := Lib.hid hc
  have HC1 := Lib.hid (show c ≠ 0 by omega)
  have HC2 := Lib.hid hc1
  have HF := Lib.hid hF
  have HGR := Lib.hid hgr
  obtain ⟨b, o, rfl, hbw, hbF, cs, hrow, hd⟩ := (HL.out.grown hgr).nth j hjl
  have hds := HS.out l[j] (List.getElem_mem hjl)
  obtain ⟨A', c', rfl, _⟩ := hd.items HF.out.below HF.out.ge
  generalize l[j] = d at hrow hd hds
  have c0 : wr.cell? ⟨b, o + j * 4, none⟩ = some (.int .i64 d.k) := hrow 0 (by simp)
  have c1 : wr.cell? ⟨b, o + j * 4 + 1, none⟩ = some (.int .i64 d.n) := hrow 1 (by simp)
  have c2 : wr.cell? ⟨b, o + j * 4 + 2, none⟩ = some (.string d.s) := hrow 2 (by simp)
  have c3 : wr.cell? ⟨b, o + j * 4 + 3, none⟩ = some (.slice A' d.l.length c') := hrow 3 (by simp)
  obtain ⟨v', cp, rfl, hXc, hcm, _⟩ := HO.out.form
  have hXj : X.length + 1 <= 10 := by rw [HX.out]; omega
  have hxw : X.length <= cp := hXc
  have hneF : wr.heap.size ≠ m.F := by have := HF.out.lt; omega
  clear hd hrow
  go_wp2_with fail
  refine (name_any d A' d.l.length c' _ hds (HF.out.next ((Below.refl _ _).alloc (Nat.le_refl _) _)).umaps).mono ?_
  rintro e w1 ⟨rfl, hb1⟩
  obtain ⟨g1, g2⟩ := bcell hb1
  have hs1 : wr.heap.size < w1.heap.size := Nat.lt_of_lt_of_le (by simp) hb1.size
  have HB1 := Lib.hid (((Below.refl wr.heap.size wr).alloc (Nat.le_refl _) (.cells #[.int .i64 d.k, .int .i64 d.n, .string d.s, .slice A' d.l.length c'] 38)).trans (hb1.mono (by simp)))
  have HF1 := Lib.hid (HF.out.next HB1.out)
  have HO1 := Lib.hid (HO.out.new HB1.out)
  have HG1 := Lib.hid (hgr.trans (zb HB1.out _))
  clear hF hgr hc hc1
  clear hb1
  cases hbb : bindB d
  case false =>
   clear hbb
   go_wp2_with fail
   refine (wrong_idle HF1.out HC1.out 4).mono ?_
   rintro e w2 ⟨rfl, hb2⟩
   obtain ⟨g3, g4⟩ := bcell hb2
   have hs2 : wr.heap.size < w2.heap.size := Nat.lt_of_lt_of_le hs1 hb2.size
   have HF2 := Lib.hid (HF1.out.next hb2)
   have HG2 := Lib.hid (HG1.out.trans (zb hb2 _))
   have HO2 := Lib.hid (HO1.out.new hb2)
   clear hb2
   go_wp2_with (at_builtin; refine wpList_s rfl (.tmp 39) (.tmp 42) rfl HO2.out d.s _ rfl rfl rfl (by omega) HG2.out.size ?_; intro v5 w5 h5 h6)
   have HO5 := Lib.hid h5
   have HB5 := Lib.hid (below_row (base := w.heap.size) HG2.out.size h6 (zv HO2.out.row))
   clear h5 h6
   go_wp2_with fail
   go_roundg (N - (j + 1))
   case measure => have := HG.out; omega
   case rel => exact ⟨j + 1, X ++ [d.s], rfl, by omega, by go_num, by simp [HX.out], HO5.out, NmMode.bad HC.out HC2.out H.out HF2.out HG2.out HB5.out⟩
  clear hbb
  go_wp2_with fail
  obtain ⟨A6, cp6, hv6, hsc6, _⟩ := own_scope HO1.out.strs H.out.lt
  obtain ⟨rfl, rfl⟩ : v' = A6 /\ cp = cp6 := by simpa using hv6
  refine (contains_any d.s v' X.length cp X _ hsc6.cap_ hsc6.le hsc6.strs).mono ?_
  rintro e w1' ⟨rfl, rfl⟩
  clear hsc6 hv6
  cases hii : inL X d.s
  case true =>
   clear hii
   go_wp2_with fail
   refine (wrong_idle HF1.out HC1.out 7).mono ?_
   rintro e w2 ⟨rfl, hb2⟩
   obtain ⟨g3, g4⟩ := bcell hb2
   have hs2 : wr.heap.size < w2.heap.size := Nat.lt_of_lt_of_le hs1 hb2.size
   have HF2 := Lib.hid (HF1.out.next hb2)
   have HG2 := Lib.hid (HG1.out.trans (zb hb2 _))
   have HO2 := Lib.hid (HO1.out.new hb2)
   clear hb2
   go_wp2_with (at_builtin; refine wpList_s rfl (.tmp 39) (.tmp 42) rfl HO2.out d.s _ rfl rfl rfl (by omega) HG2.out.size ?_; intro v5 w5 h5 h6)
   have HO5 := Lib.hid h5
   have HB5 := Lib.hid (below_row (base := w.heap.size) HG2.out.size h6 (zv HO2.out.row))
   clear h5 h6
   go_wp2_with fail
   go_roundg (N - (j + 1))
   case measure => have := HG.out; omega
   case rel => exact ⟨j + 1, X ++ [d.s], rfl, by omega, by go_num, by simp [HX.out], HO5.out, NmMode.bad HC.out HC2.out H.out HF2.out HG2.out HB5.out⟩
  clear hii
  go_wp2_with (at_builtin; refine wpList_s rfl (.tmp 39) (.tmp 42) rfl HO1.out d.s _ rfl rfl rfl (by omega) HG1.out.size ?_; intro v5 w5 h5 h6)
  have HO5 := Lib.hid h5
  have HB5 := Lib.hid (below_row (base := w.heap.size) HG1.out.size h6 (zv HO1.out.row))
  clear h5 h6
  go_wp2_with fail
  go_roundg (N - (j + 1))
  case measure => have := HG.out; omega
  case rel => exact ⟨j + 1, X ++ [d.s], rfl, by omega, by go_num, by simp [HX.out], HO5.out, NmMode.bad HC.out HC2.out H.out HF1.out HG1.out HB5.out⟩
 obtain rfl : j = N := by omega
 obtain ⟨A', c', rfl, hsc, hnm⟩ := own_names (F := m.F) HO.out H.out.lt (Nat.le_refl _)
 have HSC := Lib.hid hsc
 have HNM := Lib.hid hnm
 clear hsc hnm
 have HM := Lib.hid hM
 clear hM
 go_wp2_with fail
 go_ret
 rw [HE.out]
 rcases HM.out with ⟨hb, hbl⟩ | ⟨c, hc, hc1, hF, hgr⟩
 ·
  rw [List.take_of_length_le (by rw [HN.out]; exact Nat.le_refl _)] at hb
  rw [hb]
  exact ⟨A', c', rfl, HNM.out, HSC.out, hbl⟩
 rw [hc]
 exact ⟨A', c', X, rfl, HSC.out, by rw [HX.out]; exact hN6, hc1, hF, hgr⟩
/- Contracts of (*former).exprs and body, of what (*former).expr says. -/
theorem infoExpr : (Tryd.prog.info? 63).map (fun i => (i.zero.map (fun z => z.cells.size), i.size, i.bytes)) = some (some 9, 9, 136) := by kernel_rfl
theorem infoExpr_parts : ∃ i z, Tryd.prog.info? 63 = some i /\ i.zero = some z /\ z.cells.size = 9 /\ i.size = 9 /\ i.bytes = 136 := by
 have h := infoExpr
 cases hi : Tryd.prog.info? 63 with
 | none => rw [hi] at h; simp at h
 | some i =>
  rw [hi] at h
  simp only [Option.map_some, Option.some.injEq, Prod.mk.injEq] at h
  obtain ⟨h1, h2, h3⟩ := h
  cases hz : i.zero with
  | none => rw [hz] at h1; simp at h1
  | some z =>
   rw [hz] at h1
   exact ⟨i, z, rfl, hz, by simpa using h1, h2, h3⟩
theorem wpList_x {K : Kit EV} (hK : K.k = 9) {base : Nat} {ops : Array Oper} {rest : List Oper} {o : Oper} {act : Act} {Q : Exit -> Act -> World -> Prop} {w : World} (hgd : o.guard = none) (s y : Operand)
  (ho : o.op = .call { callee := .builtin .append, args := #[s, y], argTypes := #[61, 61] })
  {v : Value} {X : List EV} (hO : OwnAt K 63 base w v X) (x : EV) (cs : Array Value) (hcs : cs.toList = K.cells x) (hx : K.ok w x) (hfrom : ∀ b, K.uses x b -> base <= b) (hap : ∀ b, K.uses x b -> v.ownBlock ≠ some b)
  (hs : act.eval s = v) (hy : act.eval y = .slice (some ⟨w.heap.size, 0, none⟩) 1 1) (hb : X.length + 1 <= 1048580) (hbase : base <= w.heap.size)
  (h : ∀ v' w', OwnAt K 63 base w' v' (X ++ [x]) -> w.grownBy w' v.ownBlock -> wpList Tryd.prog ops Q rest (act.put o.dst v') w') : wpList Tryd.prog ops Q (o :: rest) act (w.alloc (.cells cs 63)) := by
 obtain ⟨i0, z, hi, hz0, hzs, hz1, hz2⟩ := infoExpr_parts
 exact wpList_own hgd s y ho Tryd.underlying61 hi hz0 (by rw [hK]; exact hz1) hz2 (by rw [hK]; exact hzs) (by rw [hK]; decide) hO x cs hcs hx hfrom hap hs hy (by unfold maxLen; omega) hbase (fun v' w' h1 h2 _ => h v' w' h1 h2)
def ExprSays (W0 : World) (m : Fm) (n : Nat) (rec : List ByteArray -> Dt -> Fd Ex) : Prop := ∀ (w : World) (d : Dt) (A : Option Addr) (c : Nat) (B : Option Addr) (bc : Nat) (ls : List ByteArray), zx W0 w m 0 -> Good n d →
 DtIn W0 0 W0.heap.size [.int .i64 d.k, .int .i64 d.n, .string d.s, .slice A d.l.length c] d -> ScAt w m.F B bc ls -> ls.length <= 40 →
 Calls Tryd.prog 44 #[.pointer (some ⟨m.F, 0, none⟩), .agg #[.int .i64 d.k, .int .i64 d.n, .string d.s, .slice A d.l.length c], .slice B ls.length bc] w (ExPost W0 w m (rec ls d))
set_option maxHeartbeats 1000000 in
theorem expr_idle {W0 w : World} {m : Fm} {e : Int} (h : zx W0 w m e) (he : e ≠ 0) (k n : Int) (s : ByteArray) (A : Option Addr) (len c : Nat) (B : Option Addr) (bl bc : Nat) :
  Calls Tryd.prog 44 #[.pointer (some ⟨m.F, 0, none⟩), .agg #[.int .i64 k, .int .i64 n, .string s, .slice A len c], .slice B bl bc] w (ExIdle w) := by
 have c4 := h.c4
 have hlt := h.lt
 have hne := World.new_ne w _ c4
 have he0 : (e != 0) = true := by simpa using he
 clear h he
 go_enter Tryd.func44, Tryd.ntmps44
 go_wp2_with fail
 exact bodyPost_ret (v := evz.agg) (by simp [results, Tryd.results44, go_sem, evz, EV.agg]) rfl ⟨evz, rfl, ((Below.refl _ _).alloc (Nat.le_refl _) _).alloc (by simp) _⟩
def ExsPost (W0 w : World) (m : Fm) (n : Nat) (r : Fd (List Ex)) (e : Ending) (w' : World) : Prop := match r with
 | .ok xs => ∃ v X, e = .returned v /\ OwnAt (kitEx W0) 63 w.heap.size w' v X /\ X.map (·.t) = xs /\ X.length = n /\ Below w.heap.size w w'
 | .err c => ∃ v X, e = .returned v /\ OwnAt kitAny 63 w.heap.size w' v X /\ X.length = n /\ 1 <= c /\ zx W0 w' m c /\ w.grownBy w' (some m.F)
def ExsIdle (w : World) (n : Nat) (e : Ending) (w' : World) : Prop := ∃ v X, e = .returned v /\ OwnAt kitAny 63 w.heap.size w' v X /\ X.length = n /\ Below w.heap.size w w'
set_option maxHeartbeats 2000000 in
theorem exprs_idle {W0 w : World} {m : Fm} {e : Int} (h : zx W0 w m e) (he : e ≠ 0) (A : Option Addr) (cap : Nat) (l : List Dt) (hl : DsAt W0 w m.F A cap l) (hn : l.length <= 1048576) (B : Option Addr) (bl bc : Nat) :
  Calls Tryd.prog 68 #[.pointer (some ⟨m.F, 0, none⟩), .slice A l.length cap, .slice B bl bc] w (ExsIdle w l.length) := by
 have HL := Lib.hid hl
 have H := Lib.hid h
 have HE := Lib.hid he
 obtain ⟨N, hN⟩ : ∃ N, l.length = N := ⟨_, rfl⟩
 have HN := Lib.hid hN
 rw [hN] at hn ⊢
 have hcap := hl.le
 rw [hN] at hcap
 clear h hl he hN
 go_enter Tryd.func68, Tryd.ntmps68
 go_wp2_with fail
 go_loopg [7, 12] N (fun g v i wr => ∃ (j : Nat) (X : List EV), g = N - j /\ j <= N /\ i = .int .i64 j /\ X.length = j /\ OwnAt kitAny 63 w.heap.size wr v X /\ Below w.heap.size w wr)
 case atStart => exact ⟨0, [], by omega, by omega, rfl, rfl, OwnAt.start _ _ _ _, Below.refl _ _⟩
 obtain ⟨j, X, hg, hj, rfl, hX, hO, hb⟩ := hrel
 have HG := Lib.hid hg
 have HO := Lib.hid hO
 have HX := Lib.hid hX
 have HB := Lib.hid hb
 have HF := Lib.hid (H.out.next hb)
 clear hg hO hX
 by_cases hlt2 : j < N
 ·
  have hjl : j < l.length := by rw [HN.out]; exact hlt2
  obtain ⟨b, o, rfl, hbw, hbF, cs, hrow, hd⟩ := (HL.out.below hb).nth j hjl
  obtain ⟨A', c', rfl, _⟩ := hd.items HF.out.below HF.out.ge
  generalize l[j] = d at hrow hd
  have c0 : wr.cell? ⟨b, o + j * 4, none⟩ = some (.int .i64 d.k) := hrow 0 (by simp)
  have c1 : wr.cell? ⟨b, o + j * 4 + 1, none⟩ = some (.int .i64 d.n) := hrow 1 (by simp)
  have c2 : wr.cell? ⟨b, o + j * 4 + 2, none⟩ = some (.string d.s) := hrow 2 (by simp)
  have c3 : wr.cell? ⟨b, o + j * 4 + 3, none⟩ = some (.slice A' d.l.length c') := hrow 3 (by simp)
  obtain ⟨v', cp, rfl, hXc, hcm, _⟩ := HO.out.form
  have hXj : X.length + 1 <= 1048580 := by rw [HX.out]; omega
  have hxw : X.length <= cp := hXc
  clear hd hrow hb
  go_wp2_with fail
  refine (expr_idle (HF.out.next ((Below.refl _ _).alloc (Nat.le_refl _) _)) HE.out d.k d.n d.s A' d.l.length c' _ _ _).mono ?_
  rintro e w1 ⟨v1, rfl, hb1⟩
  have hB1 := ((Below.refl wr.heap.size wr).alloc (Nat.le_refl _) (.cells #[.int .i64 d.k, .int .i64 d.n, .string d.s, .slice A' d.l.length c'] 38)).trans (hb1.mono (by simp))
  have HB1 := Lib.hid hB1
  have HO1 := Lib.hid (HO.out.new hB1)
  clear hb1 hB1
  unfold EV.agg
  go_wp2_with (at_builtin; refine wpList_x rfl rfl (.tmp 16) (.tmp 21) rfl HO1.out v1 _ rfl trivial (fun b hb => hb.elim) (fun b hb => hb.elim) rfl rfl hXj (Nat.le_trans HB.out.size HB1.out.size) ?_; intro v5 w5 h5 h6)
  have HO5 := Lib.hid h5
  have HB5 := Lib.hid (below_row (base := w.heap.size) (Nat.le_trans HB.out.size HB1.out.size) h6 (zv HO1.out.row))
  clear h5 h6
  go_wp2_with fail
  go_roundg (N - (j + 1))
  case measure => have := HG.out; omega
  case rel => exact ⟨j + 1, X ++ [v1], rfl, by omega, by go_num, by simp [HX.out], HO5.out, (HB.out.trans (HB1.out.mono HB.out.size)).trans HB5.out⟩
 obtain rfl : j = N := by omega
 go_wp2_with fail
 go_ret
 exact ⟨_, X, rfl, HO.out, HX.out, HB.out⟩
theorem all_ok {rec : Dt -> Fd Ex} {l : List Dt} {k : Nat} {X : List EV} {x : Ex} {v : EV} (hk : k < l.length) (h : allF rec (l.take k) = .ok (X.map (·.t))) (hx : rec l[k] = .ok x) (hv : v.t = x) : allF rec (l.take (k + 1)) = .ok ((X ++ [v]).map (·.t)) := by
 rw [List.take_succ_eq_append_getElem hk, List.map_append, allF_snoc_ok h hx]
 simp [hv]
theorem all_err {rec : Dt -> Fd Ex} {l : List Dt} {k : Nat} {X : List EV} {c : Int} (hk : k < l.length) (h : allF rec (l.take k) = .ok (X.map (·.t))) (hx : rec l[k] = .err c) : allF rec l = .err c := by
 have := allF_snoc_err h hx (l.drop (k + 1))
 rwa [<- List.drop_eq_getElem_cons hk, List.take_append_drop] at this
def XsMode (W0 w : World) (m : Fm) (rec : Dt -> Fd Ex) (l : List Dt) (X : List EV) (v : Value) (wr : World) (k : Nat) : Prop :=
 (allF rec (l.take k) = .ok (X.map (·.t)) /\ OwnAt (kitEx W0) 63 w.heap.size wr v X /\ Below w.heap.size w wr) \/ (∃ c, allF rec l = .err c /\ OwnAt kitAny 63 w.heap.size wr v X /\ 1 <= c /\ zx W0 wr m c /\ w.grownBy wr (some m.F))
theorem XsMode.bad {W0 w w2 w5 : World} {m : Fm} {rec : Dt -> Fd Ex} {l : List Dt} {X : List EV} {v : Value} {k : Nat} {c : Int} (hc : allF rec l = .err c) (hO : OwnAt kitAny 63 w.heap.size w5 v X) (h1 : 1 <= c) (h : zx W0 w m 0) (h2 : zx W0 w2 m c) (hg : w.grownBy w2 (some m.F)) (hb : Below w.heap.size w2 w5) : XsMode W0 w m rec l X v w5 k :=
 Or.inr ⟨c, hc, hO, h1, (h.later h2 hg hb).1, (h.later h2 hg hb).2⟩
set_option maxHeartbeats 4000000 in
theorem exprs_any {W0 w : World} {m : Fm} {n : Nat} {rec : List ByteArray -> Dt -> Fd Ex} (he : ExprSays W0 m n rec) (h : zx W0 w m 0) (A : Option Addr) (cap : Nat) (l : List Dt) (hl : DsAt W0 w m.F A cap l) (hgd : ∀ x ∈ l, Good n x) (hn : l.length <= 1048576) (B : Option Addr) (bc : Nat) (ls : List ByteArray) (hsc : ScAt w m.F B bc ls) (hls : ls.length <= 40) :
  Calls Tryd.prog 68 #[.pointer (some ⟨m.F, 0, none⟩), .slice A l.length cap, .slice B ls.length bc] w (ExsPost W0 w m l.length (allF (rec ls) l)) := by
 have HL := Lib.hid hl
 have H := Lib.hid h
 have HE := Lib.hid he
 have HGD := Lib.hid hgd
 have HSC := Lib.hid hsc
 obtain ⟨N, hN⟩ : ∃ N, l.length = N := ⟨_, rfl⟩
 have HN := Lib.hid hN
 rw [hN] at hn ⊢
 have hcap := hl.le
 rw [hN] at hcap
 clear h hl he hN hgd hsc
 go_enter Tryd.func68, Tryd.ntmps68
 go_wp2_with fail
 go_loopg [7, 12] N (fun g v i wr => ∃ (j : Nat) (X : List EV), g = N - j /\ j <= N /\ i = .int .i64 j /\ X.length = j /\ XsMode W0 w m (rec ls) l X v wr j)
 case atStart => exact ⟨0, [], by omega, by omega, rfl, rfl, Or.inl ⟨rfl, OwnAt.start _ _ _ _, Below.refl _ _⟩⟩
 obtain ⟨j, X, hg, hj, rfl, hX, hM⟩ := hrel
 have HG := Lib.hid hg
 have HX := Lib.hid hX
 clear hg hX
 by_cases hlt2 : j < N
 ·
  have hjl : j < l.length := by rw [HN.out]; exact hlt2
  rcases hM with ⟨hal, hO, hb⟩ | ⟨c, hal, hO, hc1, hF, hgr⟩
  ·
   have HO := Lib.hid hO
   have HB := Lib.hid hb
   have HF := Lib.hid (H.out.next hb)
   obtain ⟨b, o, rfl, hbw, hbF, cs, hrow, hd⟩ := (HL.out.below hb).nth j hjl
   obtain ⟨A', c', rfl, _⟩ := hd.items HF.out.below HF.out.ge
   have HAO := Lib.hid (fun x v hx hv => all_ok (v := v) (x := x) hjl hal hx hv)
   have HAE := Lib.hid (fun c hx => all_err (c := c) hjl hal hx)
   have HGK := Lib.hid (HGD.out l[j] (List.getElem_mem hjl))
   generalize l[j] = d at hrow hd HAO HAE HGK
   have c0 : wr.cell? ⟨b, o + j * 4, none⟩ = some (.int .i64 d.k) := hrow 0 (by simp)
   have c1 : wr.cell? ⟨b, o + j * 4 + 1, none⟩ = some (.int .i64 d.n) := hrow 1 (by simp)
   have c2 : wr.cell? ⟨b, o + j * 4 + 2, none⟩ = some (.string d.s) := hrow 2 (by simp)
   have c3 : wr.cell? ⟨b, o + j * 4 + 3, none⟩ = some (.slice A' d.l.length c') := hrow 3 (by simp)
   obtain ⟨v', cp, rfl, hXc, hcm, _⟩ := HO.out.form
   have hXj : X.length + 1 <= 1048580 := by rw [HX.out]; omega
   have hxw : X.length <= cp := hXc
   have HD := Lib.hid hd
   clear hd hrow hb hal hO
   go_wp2_with fail
   refine (HE.out _ d A' c' B bc ls (HF.out.next ((Below.refl _ _).alloc (Nat.le_refl _) _)) HGK.out HD.out ((HSC.out.below HB.out).below ((Below.refl _ _).alloc (Nat.le_refl _) _)) hls).mono ?_
   intro e w1 hpost
   cases hr : rec ls d with
   | ok x =>
    rw [hr] at hpost
    obtain ⟨v1, rfl, ht, hlo, hhi, hok, hb1⟩ := hpost
    have HOK := Lib.hid hok
    have HHI := Lib.hid hhi
    have HLO := Lib.hid (show wr.heap.size <= v1.lo by rw [hlo]; simp)
    have HA2 := Lib.hid (HAO.out x v1 hr ht)
    have hB1 := ((Below.refl wr.heap.size wr).alloc (Nat.le_refl _) (.cells #[.int .i64 d.k, .int .i64 d.n, .string d.s, .slice A' d.l.length c'] 38)).trans (hb1.mono (by simp))
    have HB1 := Lib.hid hB1
    have HO1 := Lib.hid (HO.out.new hB1)
    clear hb1 hB1 hr ht hlo hhi hok
    unfold EV.agg
    go_wp2_with (at_builtin; refine wpList_x rfl rfl (.tmp 16) (.tmp 21) rfl HO1.out v1 _ rfl HOK.out (fun b hb => Nat.le_trans (Nat.le_trans HB.out.size HLO.out) hb.1) (fun b hb => HO.out.free (Nat.le_trans HLO.out hb.1)) rfl rfl hXj (Nat.le_trans HB.out.size HB1.out.size) ?_; intro v5 w5 h5 h6)
    have HO5 := Lib.hid h5
    have HB5 := Lib.hid (below_row (base := w.heap.size) (Nat.le_trans HB.out.size HB1.out.size) h6 (zv HO1.out.row))
    clear h5 h6
    go_wp2_with fail
    go_roundg (N - (j + 1))
    case measure => have := HG.out; omega
    case rel => exact ⟨j + 1, X ++ [v1], rfl, by omega, by go_num, by simp [HX.out], Or.inl ⟨HA2.out, HO5.out, (HB.out.trans (HB1.out.mono HB.out.size)).trans HB5.out⟩⟩
   | err c =>
    rw [hr] at hpost
    obtain ⟨v1, rfl, hc1, hF1, hg1⟩ := hpost
    have HF1 := Lib.hid hF1
    have HC1 := Lib.hid hc1
    have HA2 := Lib.hid (HAE.out c hr)
    have HG1 := Lib.hid ((zb ((Below.refl wr.heap.size wr).alloc (Nat.le_refl _) (.cells #[.int .i64 d.k, .int .i64 d.n, .string d.s, .slice A' d.l.length c'] 38)) _).trans hg1)
    have HO1 := Lib.hid (HO.out.any.other HG1.out H.out.lt)
    clear hg1 hr hF1 hc1
    unfold EV.agg
    go_wp2_with (at_builtin; refine wpList_x rfl rfl (.tmp 16) (.tmp 21) rfl HO1.out v1 _ rfl trivial (fun b hb => hb.elim) (fun b hb => hb.elim) rfl rfl hXj (Nat.le_trans HB.out.size HG1.out.size) ?_; intro v5 w5 h5 h6)
    have HO5 := Lib.hid h5
    have HB5 := Lib.hid (below_row (base := w.heap.size) (Nat.le_trans HB.out.size HG1.out.size) h6 (zv HO1.out.row))
    clear h5 h6
    go_wp2_with fail
    go_roundg (N - (j + 1))
    case measure => have := HG.out; omega
    case rel => exact ⟨j + 1, X ++ [v1], rfl, by omega, by go_num, by simp [HX.out], XsMode.bad HA2.out HO5.out HC1.out H.out HF1.out ((zb HB.out _).trans HG1.out) HB5.out⟩
  have HC := Lib.hid hal
  have HC1 := Lib.hid (show c ≠ 0 by omega)
  have HC2 := Lib.hid hc1
  have HF := Lib.hid hF
  have HO := Lib.hid hO
  have HGR := Lib.hid hgr
  obtain ⟨b, o, rfl, hbw, hbF, cs, hrow, hd⟩ := (HL.out.grown hgr).nth j hjl
  obtain ⟨A', c', rfl, _⟩ := hd.items HF.out.below HF.out.ge
  generalize l[j] = d at hrow hd
  have c0 : wr.cell? ⟨b, o + j * 4, none⟩ = some (.int .i64 d.k) := hrow 0 (by simp)
  have c1 : wr.cell? ⟨b, o + j * 4 + 1, none⟩ = some (.int .i64 d.n) := hrow 1 (by simp)
  have c2 : wr.cell? ⟨b, o + j * 4 + 2, none⟩ = some (.string d.s) := hrow 2 (by simp)
  have c3 : wr.cell? ⟨b, o + j * 4 + 3, none⟩ = some (.slice A' d.l.length c') := hrow 3 (by simp)
  obtain ⟨v', cp, rfl, hXc, hcm, _⟩ := HO.out.form
  have hXj : X.length + 1 <= 1048580 := by rw [HX.out]; omega
  have hxw : X.length <= cp := hXc
  clear hd hrow hgr hal hO hF hc1
  go_wp2_with fail
  refine (expr_idle (HF.out.next ((Below.refl _ _).alloc (Nat.le_refl _) _)) HC1.out d.k d.n d.s A' d.l.length c' _ _ _).mono ?_
  rintro e w1 ⟨v1, rfl, hb1⟩
  have hB1 := ((Below.refl wr.heap.size wr).alloc (Nat.le_refl _) (.cells #[.int .i64 d.k, .int .i64 d.n, .string d.s, .slice A' d.l.length c'] 38)).trans (hb1.mono (by simp))
  have HB1 := Lib.hid hB1
  have HO1 := Lib.hid (HO.out.new hB1)
  have HF1 := Lib.hid (HF.out.next hB1)
  clear hb1 hB1
  unfold EV.agg
  go_wp2_with (at_builtin; refine wpList_x rfl rfl (.tmp 16) (.tmp 21) rfl HO1.out v1 _ rfl trivial (fun b hb => hb.elim) (fun b hb => hb.elim) rfl rfl hXj (Nat.le_trans HGR.out.size HB1.out.size) ?_; intro v5 w5 h5 h6)
  have HO5 := Lib.hid h5
  have HB5 := Lib.hid (below_row (base := w.heap.size) (Nat.le_trans HGR.out.size HB1.out.size) h6 (zv HO1.out.row))
  clear h5 h6
  go_wp2_with fail
  go_roundg (N - (j + 1))
  case measure => have := HG.out; omega
  case rel => exact ⟨j + 1, X ++ [v1], rfl, by omega, by go_num, by simp [HX.out], XsMode.bad HC.out HO5.out HC2.out H.out HF1.out (HGR.out.trans (zb HB1.out _)) HB5.out⟩
 obtain rfl : j = N := by omega
 have HM := Lib.hid hM
 clear hM
 go_wp2_with fail
 go_ret
 rcases HM.out with ⟨hal, hO, hb⟩ | ⟨c, hal, hO, hc1, hF, hgr⟩
 ·
  rw [List.take_of_length_le (by rw [HN.out]; exact Nat.le_refl _)] at hal
  rw [hal]
  exact ⟨_, X, rfl, hO, rfl, HX.out, hb⟩
 rw [hal]
 exact ⟨_, X, rfl, hO, HX.out, hc1, hF, hgr⟩
end Go.Proofs.YtjmeodadkjcmmaaDoor
