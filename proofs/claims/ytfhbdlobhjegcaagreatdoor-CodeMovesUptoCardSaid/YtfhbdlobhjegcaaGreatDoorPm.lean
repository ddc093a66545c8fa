import Derived.Test.YtfhbdlobhjegcaaGreatDoorGNam
import Derived.Test.YtfhbdlobhjegcaaGreatDoorGTree
import Derived.Test.YtfhbdlobhjegcaaGreatDoorGPlain
namespace Go.Proofs.YtfhbdlobhjegcaaGreatDoor
open Go.RowKit Go.ChangeShapes Go.WideShapes Go.Deep Go.ChangeAt
set_option linter.unusedVariables false
set_option maxRecDepth 20000
theorem RowAt.same {w : World} {b o : Nat} {c d : List Value} (h : RowAt w b o c) (h' : RowAt w b o d) (hl : c.length = d.length) : c = d := by
 refine List.ext_getElem? fun i => ?_
 by_cases hi : i < c.length
 ·
  rw [<- h i hi, <- h' i (by omega)]
 rw [List.getElem?_eq_none (by omega), List.getElem?_eq_none (by omega)]
theorem nameB_len {l : List UInt8} (h : nameB l = true) : 1 <= l.length /\ l.length <= 16 := by
 match l, h with
 | [a], _ => simp
 | a :: b :: r, h =>
  simp only [nameB, Bool.and_eq_true, decide_eq_true_eq] at h
  simp at h ⊢
  omega
theorem firstErr_none {l : List Int} (h : firstErr l = 0) : ∀ x ∈ l, x = 0 := by
 induction l with
 | nil => simp
 | cons a l ih =>
  rw [firstErr] at h
  split at h
  ·
   rename_i ha
   intro x hx
   rcases List.mem_cons.1 hx with rfl | hx
   ·
    exact ha
   exact ih h x hx
  rename_i ha
  exact absurd h ha
section
variable {H : Type} {enc : TypeId × Value -> H}
theorem dt_any : (n : Nat) -> ∀ {w : World} {cs : List Value} {d : DataW H}, Rows.uptoBulk d <= n -> Rd enc w 24 cs d -> ∃ t, DtIn w 0 w.heap.size cs t /\ countD t <= Rows.uptoBulk d
 | 0, w, cs, d, hn, hd => by
  have := bulks.one_le d
  omega
 | r + 1, w, cs, d, hn, hd => by
  obtain ⟨k, n, s, A, len, cap, it, rfl, rfl, hk, hnn, hs, hA⟩ := hd.datum
  have hbi : Rows.uptoBulk it + 1 <= Rows.uptoBulk (DataW.agg [.lit (.int .i64 k), .lit (.int .i64 n), .lit (.string s.data.toList), it] : DataW H) := by simp only [Rows.uptoBulk, Rows.uptoBulkAll]; omega
  rcases Nat.eq_zero_or_pos len with h0 | h0
  ·
   subst h0
   exact ⟨.mk k n s [], .mk k n s A cap [] [] rfl (Nat.zero_le _) hA.wide (fun h => absurd h (by simp)) (fun i h => absurd h (by simp)), by rw [countD, countDs]; exact bulks.one_le _⟩
  ·
   obtain ⟨b, o, rfl, hbw, hrow⟩ := hA.at_ h0
   have h3 : Rows.uptoBulkAll (elems it) <= Rows.uptoBulk it := by
    cases it <;> simp [elems, Rows.uptoBulk, Rows.uptoBulkAll]
    omega
   have hx : ∀ i : Fin len, ∃ x : List Value × Dt, RowAt w b (o + i.1 * 4) x.1 /\ DtIn w 0 w.heap.size x.1 x.2 /\ ∀ h : i.1 < (elems it).length, countD x.2 <= Rows.uptoBulk (elems it)[i.1] := by
    intro i
    have hil : i.1 < (elems it).length := by rw [hA.size]; exact i.2
    obtain ⟨cs', hl, hr, hrd⟩ := hrow i.1 hil
    have h2 := bulks.part_le (List.getElem_mem hil)
    obtain ⟨t, ht1, ht2⟩ := dt_any r (by omega) hrd
    exact ⟨(cs', t), hr, ht1, fun _ => ht2⟩
   obtain ⟨f, hf⟩ := Classical.axiomOfChoice hx
   have hll : (List.ofFn fun i => (f i).2).length = len := by simp
   have hm := DtIn.mk (w := w) (lo := 0) (hi := w.heap.size) k n s (some ⟨b, o, none⟩) cap (List.ofFn fun i => (f i).2) (List.ofFn fun i => (f i).1) (by simp) (by simp; exact hA.le) hA.wide (fun _ => ⟨b, o, rfl, Nat.zero_le _, hbw, hbw, fun i hi => by
    have hi' : i < len := by simpa using hi
    rw [List.getElem_ofFn]
    exact (hf ⟨i, hi'⟩).1⟩) (fun i hi hi2 => by
    have hi' : i < len := by simpa using hi
    rw [List.getElem_ofFn, List.getElem_ofFn]
    exact (hf ⟨i, hi'⟩).2.1)
   rw [hll] at hm
   refine ⟨_, hm, ?_⟩
   have key : ∀ (l : List Dt) (m : List (DataW H)), l.length = m.length -> (∀ i, (h1 : i < l.length) -> (h2 : i < m.length) -> countD l[i] <= Rows.uptoBulk m[i]) -> countDs l <= Rows.uptoBulkAll m := by
    intro l
    induction l with
    | nil => intro m _ _; rw [countDs]; exact Nat.zero_le _
    | cons x l ih =>
     intro m hl he
     match m, hl with
     | y :: m, hl =>
      rw [countDs, Rows.uptoBulkAll]
      have h1 := he 0 (by simp) (by simp)
      have h2 := ih m (by simpa using hl) (fun i i1 i2 => by have := he (i + 1) (by simpa using i1) (by simpa using i2); simpa using this)
      simp at h1
      omega
   rw [countD]
   have := key (List.ofFn fun i => (f i).2) (elems it) (by rw [hll, hA.size]) (fun i i1 i2 => by
    have hi' : i < len := by simpa using i1
    rw [List.getElem_ofFn]
    exact (hf ⟨i, hi'⟩).2.2 i2)
   omega
theorem dtw_of {w : World} {cs : List Value} {t : Dt} (h : DtIn w 0 w.heap.size cs t) : ∀ {r : Nat} {d : DataW H}, Rd enc w 24 cs d -> fault r d = 0 -> DtW t := by
 induction h with
 | mk k n s A cap l cs hl a1 a2 row each ih =>
  intro r d hd hf
  obtain ⟨k', n', s', A', len, cap', it, hc, rfl, hk, hn, hs, hA⟩ := hd.datum
  simp only [List.cons.injEq, Value.int.injEq, Value.string.injEq, Value.slice.injEq, and_true, true_and] at hc
  obtain ⟨rfl, rfl, rfl, rfl, rfl, rfl⟩ := hc
  cases r with
  | zero =>
   unfold fault at hf
   split at hf <;> cases hf
  | succ r =>
   unfold fault at hf
   split at hf
   ·
    cases hf
   rename_i hk4
   split at hf
   ·
    rename_i h2
    exact absurd hf h2
   rename_i h1
   have h1 : headFault k n (nameB s.data.toList) s.data.toList.length (elems it).length = 0 := Decidable.byContradiction (fun h => h1 h)
   have hk4 : ¬ (k < 1 \/ 4 < k) := hk4
   have hz := firstErr_none (show firstErr ((elems it).map (fault r)) = 0 from hf)
   unfold headFault at h1
   split at h1
   ·
    cases h1
   rename_i g1
   split at h1
   ·
    cases h1
   rename_i g2
   split at h1
   ·
    cases h1
   rename_i g3
   have hsz : s.data.toList.length = s.size := Array.length_toList
   rw [hsz] at g3
   have hse : s.size = 0 -> s = ⟨#[]⟩ := fun h => by
    obtain ⟨⟨l⟩⟩ := s
    have : l.length = 0 := h
    cases l with
    | nil => rfl
    | cons a l => simp at this
   refine .mk k n s l (by omega) (by omega) (fun h4 => ?_) fun x hx => ?_
   ·
    unfold atomW WOk big
    by_cases e2 : k = 2
    ·
     rw [if_pos e2]
     exact Or.inr (Or.inl ⟨rfl, by show 0 <= n; omega, by show n <= 1; omega, rfl⟩)
    rw [if_neg e2]
    by_cases e3 : k = 3
    ·
     rw [if_pos e3]
     have hnm : nameB s.data.toList = true := by
      cases hb : nameB s.data.toList with
      | true => rfl
      | false => exact absurd ⟨e3, hb⟩ g2
     have := nameB_len hnm
     rw [hsz] at this
     exact Or.inr (Or.inr (Or.inr ⟨rfl, rfl, this.1, this.2⟩))
    rw [if_neg e3]
    exact Or.inl ⟨rfl, by show -1099511627776 <= n; omega, by show n <= 1099511627776; omega, rfl⟩
   obtain ⟨i, hi, rfl⟩ := List.mem_iff_getElem.1 hx
   obtain ⟨b, o, hA1, _, _, _, hr⟩ := row (by omega)
   obtain ⟨b', o', hA2, _, hr'⟩ := hA.at_ (by omega)
   rw [hA1] at hA2
   obtain ⟨rfl, rfl⟩ : b = b' /\ o = o' := by simpa using hA2
   have hil : i < (elems it).length := by rw [hA.size]; exact hi
   obtain ⟨cs', hl', hr2, hrd⟩ := hr' i hil
   have he := each i hi (by omega)
   have hcc : cs' = cs[i] := hr2.same (hr i (by omega)) (by rw [hl', he.len])
   rw [hcc] at hrd
   exact ih i hi (by omega) hrd (hz _ (List.mem_map.2 ⟨_, List.getElem_mem hil, rfl⟩))
def Row9 (w : World) (A : Option Addr) (cs : List (List Value)) : Prop := 0 < cs.length -> ∃ b o, A = some ⟨b, o, none⟩ /\ b < w.heap.size /\ ∀ i, (h : i < cs.length) -> RowAt w b (o + i * 9) cs[i]
inductive PxIn (W : World) : List Value -> Px -> Nat -> Prop
 | const (dk dn : Int) (ds : ByteArray) (dA : Option Addr) (dl dc : Nat) (d : Dt) (hd : DtIn W 0 W.heap.size [.int .i64 dk, .int .i64 dn, .string ds, .slice dA dl dc] d) (s : ByteArray) (n : Int) (nA : Option Addr) (nl nc : Nat) (aA : Option Addr) (ac : Nat) (h2 : ac <= maxLen) :
   PxIn W [.int .i64 1, .int .i64 dk, .int .i64 dn, .string ds, .slice dA dl dc, .string s, .int .i64 n, .slice nA nl nc, .slice aA 0 ac] (.const d) (countD d)
 | was (dk dn : Int) (ds : ByteArray) (dA : Option Addr) (dl dc : Nat) (d : Dt) (hd : DtIn W 0 W.heap.size [.int .i64 dk, .int .i64 dn, .string ds, .slice dA dl dc] d) (s : ByteArray) (n : Int) (i : Nat) (hi : n = i) (nA : Option Addr) (nl nc : Nat) (aA : Option Addr) (ac : Nat) (h2 : ac <= maxLen) :
   PxIn W [.int .i64 15, .int .i64 dk, .int .i64 dn, .string ds, .slice dA dl dc, .string s, .int .i64 n, .slice nA nl nc, .slice aA 0 ac] (.was i) (countD d)
 | ite (dk dn : Int) (ds : ByteArray) (dA : Option Addr) (dl dc : Nat) (d : Dt) (hd : DtIn W 0 W.heap.size [.int .i64 dk, .int .i64 dn, .string ds, .slice dA dl dc] d) (s : ByteArray) (n : Int) (nA : Option Addr) (nl nc : Nat) (aA : Option Addr) (ac : Nat) (h1 : 3 <= ac) (h2 : ac <= maxLen)
   (c0 c1 c2 : List Value) (row : Row9 W aA [c0, c1, c2]) (x0 x1 x2 : Px) (k0 k1 k2 : Nat) (e0 : PxIn W c0 x0 k0) (e1 : PxIn W c1 x1 k1) (e2 : PxIn W c2 x2 k2) :
   PxIn W [.int .i64 4, .int .i64 dk, .int .i64 dn, .string ds, .slice dA dl dc, .string s, .int .i64 n, .slice nA nl nc, .slice aA 3 ac] (.ite x0 x1 x2) (countD d + [k0, k1, k2].sum)
 | prim (dk dn : Int) (ds : ByteArray) (dA : Option Addr) (dl dc : Nat) (d : Dt) (hd : DtIn W 0 W.heap.size [.int .i64 dk, .int .i64 dn, .string ds, .slice dA dl dc] d) (s : ByteArray) (n : Int) (nA : Option Addr) (nl nc : Nat) (aA : Option Addr) (ac : Nat) (l : List Px) (h1 : l.length <= ac) (h2 : ac <= maxLen)
   (cs : List (List Value)) (ks : List Nat) (hc : cs.length = l.length) (hk : ks.length = l.length) (h0 : 0 < l.length) (row : Row9 W aA cs) (each : ∀ i, (i1 : i < l.length) -> (i2 : i < cs.length) -> (i3 : i < ks.length) -> PxIn W cs[i] l[i] ks[i]) :
   PxIn W [.int .i64 10, .int .i64 dk, .int .i64 dn, .string ds, .slice dA dl dc, .string s, .int .i64 n, .slice nA nl nc, .slice aA l.length ac] (.prim s l) (countD d + ks.sum)
theorem PxIn.len {W : World} {c : List Value} {p : Px} {k : Nat} (h : PxIn W c p k) : c.length = 9 := by cases h <;> rfl
theorem prim_ar {s : ByteArray} {n : Nat} (h : primN s.toList = n) : arP s = n /\ 1 <= n := by
 have hb : ∀ {l : List UInt8}, s.toList = l -> s = ⟨⟨l⟩⟩ := fun e => by
  rw [ByteArray.toList_eq] at e
  obtain ⟨⟨l'⟩⟩ := s
  simp at e
  rw [e]
 unfold primN at h
 split at h
 ·
  rename_i hm
  obtain rfl : n = 2 := by omega
  simp only [prims2, List.mem_cons, List.not_mem_nil, or_false] at hm
  rcases hm with e | e | e | e | e | e | e | e | e <;> (rw [hb e]; exact ⟨by decide, by decide⟩)
 split at h
 ·
  rename_i hm
  obtain rfl : n = 1 := by omega
  simp only [prims1, List.mem_cons, List.not_mem_nil, or_false] at hm
  rcases hm with e | e | e | e | e | e <;> (rw [hb e]; exact ⟨by decide, by decide⟩)
 omega
theorem inB2_pure {k : Int} (h : k = 1 \/ k = 4 \/ k = 10 \/ k = 15) (i n : Nat) : inB2 k i n = false := by
 unfold inB2
 rcases h with rfl | rfl | rfl | rfl <;> simp
theorem px_of : (n : Nat) -> ∀ {w : World} {cs : List Value} {d : DataW H} {x : Tr n} {sc : List ByteArray} {o : Int}, ExAt enc w n cs x -> Rd enc w 28 cs d -> 0 <= o -> exprF n x sc o = 0 →
  ∃ p cnt, PxIn w cs p cnt /\ PxW o.toNat p /\ countX p <= cnt /\ cnt <= Rows.uptoBulk d
 | 0, w, cs, d, x, sc, o, hx, _, _, _ => hx.elim
 | n + 1, w, cs, d, x, sc, o, hx, hd, ho, hf => by
  obtain ⟨dk, dn, ds, dA, dl, dc, An, nl, nc, Aa, al, ac, h1, h2, h3⟩ := hx
  obtain ⟨f, ps, h⟩ := hd
  obtain ⟨xs, m, _, hxs, hl, hlen, hfs⟩ := DataW.trod_struct Tryz.underlying28 h
  rw [cellsExpr] at hl
  have hcs := h1.cells
  subst hcs
  match xs, hlen with
  | [y0, y1, y2, y3, y4, y5], _ =>
   simp only [Prod.mk.injEq] at hxs
   have g1 : Rd enc w 24 [.int .i64 dk, .int .i64 dn, .string ds, .slice dA dl dc] y1.1 := ⟨m, y1.2, by simpa [cellsInt, cellsDatum] using hfs 1 _ rfl⟩
   have g5 : Rd enc w 26 [.slice Aa al ac] y5.1 := ⟨m, y5.2, by simpa [cellsInt, cellsDatum, cellsString, cellsSlString, cellsSlExpr] using hfs 5 _ rfl⟩
   have hbd : Rows.uptoBulk y1.1 + Rows.uptoBulk y5.1 + 1 <= Rows.uptoBulk d := by
    rw [hxs.1]
    simp only [List.map_cons, List.map_nil, Rows.uptoBulk, Rows.uptoBulkAll]
    omega
   obtain ⟨t, ht1, ht2⟩ := dt_any _ (Nat.le_refl _) g1
   obtain ⟨A5, l5, c5, e5, hA⟩ := g5.slAt Tryz.underlying26 cellsExpr (by decide)
   obtain ⟨rfl, rfl, rfl⟩ : Aa = A5 /\ al = l5 /\ ac = c5 := by simpa using e5
   have hbe : Rows.uptoBulkAll (elems y5.1) <= Rows.uptoBulk y5.1 := by
    cases y5.1 <;> simp [elems, Rows.uptoBulk, Rows.uptoBulkAll]
    omega
   rw [exprF] at hf
   split at hf
   ·
    cases hf
   rename_i q1
   split at hf
   ·
    cases hf
   rename_i q2
   split at hf
   ·
    cases hf
   rename_i q3
   split at hf
   ·
    cases hf
   rename_i q4
   split at hf
   ·
    cases hf
   rename_i q5
   have q2 : countB x.1.kind x.2.length x.1.S x.1.names = true := by simpa using q2
   have hkind : x.1.kind = 1 \/ x.1.kind = 4 \/ x.1.kind = 10 \/ x.1.kind = 15 := by omega
   have hz := firstErr_none hf
   have hz' : ∀ i, (hi : i < x.2.length) -> exprF n x.2[i] sc o = 0 := by
    intro i hi
    have := hz (exprF n x.2[i] sc o) (List.mem_map.2 ⟨(x.2[i], i), by
     rw [List.mem_iff_getElem]
     exact ⟨i, by simpa using hi, by simp⟩, by simp only [inB2_pure hkind]; rfl⟩)
    exact this
   have hsub : ∀ i : Fin al, ∃ z : List Value × Px × Nat, (∀ b o', Aa = some ⟨b, o', none⟩ -> RowAt w b (o' + i.1 * 9) z.1) /\ PxIn w z.1 z.2.1 z.2.2 /\ PxW o.toNat z.2.1 /\ countX z.2.1 <= z.2.2 /\ ∀ h : i.1 < (elems y5.1).length, z.2.2 <= Rows.uptoBulk (elems y5.1)[i.1] := by
    intro i
    have hpos : 0 < al := Nat.lt_of_le_of_lt (Nat.zero_le _) i.2
    obtain ⟨b, o', hA1, hb, hrow⟩ := h3 hpos
    obtain ⟨b', o2, hA2, hb', hrow'⟩ := hA.at_ hpos
    rw [hA1] at hA2
    obtain ⟨rfl, rfl⟩ : b = b' /\ o' = o2 := by simpa using hA2
    have hi2 : i.1 < x.2.length := by rw [h2]; exact i.2
    have hil : i.1 < (elems y5.1).length := by rw [hA.size]; exact i.2
    obtain ⟨cs1, hl1, hr1, he1⟩ := hrow i.1 hi2
    obtain ⟨cs2, hl2, hr2, hd2⟩ := hrow' i.1 hil
    have hcc : cs2 = cs1 := hr2.same hr1 (by rw [hl1, hl2])
    rw [hcc] at hd2
    obtain ⟨p, cnt, i1, i2, i3, i4⟩ := px_of n he1 hd2 ho (hz' i.1 hi2)
    refine ⟨(cs1, p, cnt), fun b1 o1 hA3 => ?_, i1, i2, i3, fun _ => i4⟩
    rw [hA1] at hA3
    obtain ⟨rfl, rfl⟩ : b = b1 /\ o' = o1 := by simpa using hA3
    exact hr1
   obtain ⟨g, hg⟩ := Classical.axiomOfChoice hsub
   have hrow9 : ∀ (cs : List (List Value)) (hl : cs.length = al), (∀ i, (hi : i < cs.length) -> cs[i] = (g ⟨i, by omega⟩).1) -> Row9 w Aa cs := by
    intro cs hl he h0
    obtain ⟨b, o', hA1, hb, _⟩ := h3 (by omega)
    refine ⟨b, o', hA1, hb, fun i hi => ?_⟩
    rw [he i hi]
    exact (hg ⟨i, by omega⟩).1 b o' hA1
   have hsum : ∀ (ks : List Nat) (m : List (DataW H)), ks.length = m.length -> (∀ i, (i1 : i < ks.length) -> (i2 : i < m.length) -> ks[i] <= Rows.uptoBulk m[i]) -> ks.sum <= Rows.uptoBulkAll m := by
    intro ks
    induction ks with
    | nil => intro m _ _; simp
    | cons k ks ih =>
     intro m hl he
     match m, hl with
     | y :: m, hl =>
      rw [List.sum_cons, Rows.uptoBulkAll]
      have h1 := he 0 (by simp) (by simp)
      have h2 := ih m (by simpa using hl) (fun i i1 i2 => by have := he (i + 1) (by simpa using i1) (by simpa using i2); simpa using this)
      simp at h1
      omega
   have hcp : 1 <= countD t := by cases t; rw [countD]; omega
   rcases hkind with hk | hk | hk | hk
   ·
    have hal : al = 0 := by
     rw [hk] at q2
     unfold countB at q2
     rw [if_pos (Or.inl rfl)] at q2
     have := of_decide_eq_true q2
     omega
    subst hal
    rw [hk]
    obtain ⟨dd, hd1, hd2⟩ := h1.df
    have hdf : x.1.df = 0 := Decidable.byContradiction fun h => q4 (Or.inl ⟨hk, h⟩)
    exact ⟨_, _, .const dk dn ds dA dl dc t ht1 x.1.S x.1.N An nl nc Aa ac h1.acap, .const t (dtw_of ht1 hd1 (by rw [hd2, hdf])), by rw [countX]; exact Nat.le_refl _, by omega⟩
   ·
    have hal : al = 3 := by
     rw [hk] at q2
     unfold countB at q2
     rw [if_neg (by omega), if_neg (by omega), if_pos rfl] at q2
     have := of_decide_eq_true q2
     omega
    subst hal
    rw [hk]
    obtain ⟨_, a1, a2, a3, a4⟩ := hg ⟨0, by omega⟩
    obtain ⟨_, b1, b2, b3, b4⟩ := hg ⟨1, by omega⟩
    obtain ⟨_, c1, c2, c3, c4⟩ := hg ⟨2, by omega⟩
    refine ⟨_, _, .ite dk dn ds dA dl dc t ht1 x.1.S x.1.N An nl nc Aa ac h1.ale h1.acap _ _ _ (hrow9 [_, _, _] rfl fun i hi => ?_) _ _ _ _ _ _ a1 b1 c1, .ite _ _ _ a2 b2 c2, ?_, ?_⟩
    ·
     match i, hi with
     | 0, _ => rfl
     | 1, _ => rfl
     | 2, _ => rfl
    ·
     rw [countX]
     simp only [List.sum_cons, List.sum_nil]
     omega
    have := hsum [(g ⟨0, by omega⟩).2.2, (g ⟨1, by omega⟩).2.2, (g ⟨2, by omega⟩).2.2] (elems y5.1) (by rw [hA.size]; rfl) (fun i i1 i2 => by
     match i, i1 with
     | 0, _ => exact a4 i2
     | 1, _ => exact b4 i2
     | 2, _ => exact c4 i2)
    omega
   ·
    have har : primN x.1.S.toList = (al : Int) := by
     rw [hk] at q2
     unfold countB at q2
     rw [if_neg (by omega), if_neg (by omega), if_neg (by omega), if_neg (by omega), if_neg (by omega), if_neg (by omega), if_neg (by omega), if_pos rfl] at q2
     have := of_decide_eq_true q2
     omega
    obtain ⟨ha1, ha2⟩ := prim_ar har
    rw [hk]
    have l1 : (List.ofFn fun i : Fin al => (g i).2.1).length = al := by simp
    have l2 : (List.ofFn fun i : Fin al => (g i).1).length = al := by simp
    have l3 : (List.ofFn fun i : Fin al => (g i).2.2).length = al := by simp
    have hm := PxIn.prim (W := w) dk dn ds dA dl dc t ht1 x.1.S x.1.N An nl nc Aa ac (List.ofFn fun i : Fin al => (g i).2.1) (by rw [l1]; exact h1.ale) h1.acap (List.ofFn fun i : Fin al => (g i).1) (List.ofFn fun i : Fin al => (g i).2.2) (by rw [l1, l2]) (by rw [l1, l3]) (by omega)
     (hrow9 _ l2 fun i hi => by rw [List.getElem_ofFn]) (fun i i1 i2 i3 => by
      rw [List.getElem_ofFn, List.getElem_ofFn, List.getElem_ofFn]
      exact (hg ⟨i, by omega⟩).2.1)
    rw [l1] at hm
    refine ⟨_, _, hm, .prim _ _ (by omega) (by rw [ha1, l1]) (fun y hy => ?_), ?_, ?_⟩
    ·
     obtain ⟨i, rfl⟩ := List.mem_ofFn.1 hy
     exact (hg i).2.2.1
    ·
     have key : ∀ (l : List Px) (ks : List Nat), l.length = ks.length -> (∀ i, (i1 : i < l.length) -> (i2 : i < ks.length) -> countX l[i] <= ks[i]) -> countXs l <= ks.sum := by
      intro l
      induction l with
      | nil => intro ks _ _; rw [countXs]; exact Nat.zero_le _
      | cons y l ih =>
       intro ks hl he
       match ks, hl with
       | k :: ks, hl =>
        rw [countXs, List.sum_cons]
        have h1 := he 0 (by simp) (by simp)
        have h2 := ih ks (by simpa using hl) (fun i i1 i2 => by have := he (i + 1) (by simpa using i1) (by simpa using i2); simpa using this)
        simp at h1
        omega
     rw [countX]
     have := key (List.ofFn fun i : Fin al => (g i).2.1) (List.ofFn fun i : Fin al => (g i).2.2) (by rw [l1, l3]) (fun i i1 i2 => by
      rw [List.getElem_ofFn, List.getElem_ofFn]
      exact (hg ⟨i, by omega⟩).2.2.2.1)
     omega
    have := hsum (List.ofFn fun i : Fin al => (g i).2.2) (elems y5.1) (by rw [l3, hA.size]) (fun i i1 i2 => by
     rw [List.getElem_ofFn]
     exact (hg ⟨i, by omega⟩).2.2.2.2 i2)
    omega
   have hal : al = 0 := by
    rw [hk] at q2
    unfold countB at q2
    rw [if_pos (Or.inr (Or.inr (Or.inr rfl)))] at q2
    have := of_decide_eq_true q2
    omega
   subst hal
   rw [hk]
   have hN : ¬ (x.1.N < 0 \/ o <= x.1.N) := fun h => q4 (Or.inr ⟨hk, h⟩)
   exact ⟨_, _, .was dk dn ds dA dl dc t ht1 x.1.S x.1.N x.1.N.toNat (by omega) An nl nc Aa ac h1.acap, .was _ (by omega), by rw [countX]; exact hcp, by omega⟩
end
end Go.Proofs.YtfhbdlobhjegcaaGreatDoor
