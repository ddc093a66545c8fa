/- Proved: the second form's tied card of grafterylaw.UnitForms: it returns true for every row of data and every environment (unit.Form answers what the reference answers), where the arguments are of bulk at most 1048576. Conditions: none beyond the given row's own (the two listed maps, tied to the program's text). -/
import Derived.Test.YtjmeodadkjcmmaaDoorUFB
import Derived.Test.YtjmeodadkjcmmaaDoorShuA
import Derived.Test.YtjmeodadkjcmmaaDoorUnitR
import Derived.Test.YtjmeodadkjcmmaaDoorTopH
import Derived.Test.YtjmeodadkjcmmaaDoorBulk
import Derived.Test.YtjmeodadkjcmmaaDoorCards
import Derived.Test.YtjmeodadkjcmmaaDoorTie
import Derived.Deep.DeepHandedRow
import Derived.Deep.DeepWitnessRowRef
import Derived.LaidMore
namespace Go.Proofs.YtjmeodadkjcmmaaDoor
open Go.RowKit Go.ChangeShapes Go.WideShapes Go.Deep Go.ChangeAt
set_option linter.unusedVariables false
set_option maxRecDepth 20000
theorem readableEnv : Tryd.prog.readableRec 26 = true := by kernel_rfl
theorem rowEnv : 26 < Tryd.prog.types.size := of_decide_eq_true (by kernel_rfl)
theorem cellsEnv : Tryd.prog.cellsOf 26 = 2 := by kernel_rfl
theorem cellsSlShape : Tryd.prog.cellsOf 24 = 1 := by kernel_rfl
theorem Rd.env {H : Type} {enc : TypeId × Value -> H} {w : World} {cs : List Value} {d : DataW H} (h : Rd enc w 26 cs d) : ∃ G gl gc gs S sl sc L, cs = [.slice G gl gc, .slice S sl sc] /\ EnvAt w G gl gc gs S sl sc L := by
 obtain ⟨f, ps, h⟩ := h
 obtain ⟨xs, m, _, hx, hl, hlen, hf⟩ := DataW.trod_struct Tryd.underlying26 h
 rw [cellsEnv] at hl
 match cs, hl, xs, hlen with
 | [c0, c1], _, [y0, y1], _ =>
  have h0 : Rd enc w 23 [c0] y0.1 := ⟨m, y0.2, by simpa [cellsSlString] using hf 0 _ rfl⟩
  have h1 : Rd enc w 24 [c1] y1.1 := ⟨m, y1.2, by simpa [cellsSlShape] using hf 1 _ rfl⟩
  obtain ⟨G, gl, gc, e0, hg⟩ := h0.slAt Tryd.underlying23 cellsString (by decide)
  obtain ⟨S, sl, sc, e1, hs⟩ := h1.slAt Tryd.underlying24 cellsShape (by decide)
  simp only [List.cons.injEq, and_true] at e0 e1
  subst e0 e1
  obtain ⟨gs, hgs, hev⟩ := slAt_strs hg
  obtain ⟨L, hL⟩ := slAt_shapes hs
  exact ⟨G, gl, gc, gs, S, sl, sc, L, rfl, hgs, hev, hg.le, hg.wide, hL, hs.le, hs.wide⟩
section
variable {H : Type} {enc : TypeId × Value -> H}
theorem elems_le (d : DataW H) : (elems d).length + 1 <= Rows.uptoBulk d \/ (elems d) = [] := by
 cases d with
 | slice es sp => left; have := bulks.slice_le es sp; simp only [elems]; omega
 | _ => right; rfl
theorem elems_len (d : DataW H) : (elems d).length <= Rows.uptoBulk d := by
 rcases elems_le d with h | h
 ·
  omega
 rw [h]; simp
theorem elems_all (d : DataW H) : Rows.uptoBulkAll (elems d) <= Rows.uptoBulk d := by
 cases d with
 | slice es sp => have := bulks.slice_elems es sp; simp only [elems]; omega
 | _ => simp [elems, Rows.uptoBulkAll]
theorem firstErr_none {l : List Int} (h : firstErr l = 0) : ∀ x ∈ l, x = 0 := by
 induction l with
 | nil => simp
 | cons a l ih =>
  rw [firstErr] at h
  split at h
  ·
   rename_i ha
   intro x hx
   rcases List.mem_cons.1 hx with rfl | hx
   ·
    exact ha
   exact ih h x hx
  rename_i ha
  exact absurd h ha
theorem dt_of_fault : (r : Nat) -> ∀ (w : World) (cs : List Value) (d : DataW H), Rd enc w 38 cs d -> fault r d = 0 -> Rows.uptoBulk d <= 1048576 -> ∃ t, DtIn w 0 w.heap.size cs t /\ Good r t
 | 0 => fun w cs d hd hf hb => by
  unfold fault at hf
  split at hf <;> cases hf
 | r + 1 => fun w cs d hd hf hb => by
  obtain ⟨k, n, s, A, len, cap, it, rfl, rfl, hk, hn, hs, hA⟩ := hd.datum
  unfold fault at hf
  split at hf
  ·
   cases hf
  rename_i hk4
  split at hf
  ·
   rename_i h2
   exact absurd hf h2
  rename_i h1
  have h1 : headFault k n (nameB s.data.toList) s.data.toList.length (elems it).length = 0 := Decidable.byContradiction (fun h => h1 h)
  have hk4 : ¬ (k < 1 \/ 4 < k) := hk4
  have hfe : firstErr ((elems it).map (fault r)) = 0 := hf
  have hz := firstErr_none hfe
  have hbi : Rows.uptoBulk it <= 1048576 := by
   have : Rows.uptoBulk it <= Rows.uptoBulk (DataW.agg [.lit (.int .i64 k), .lit (.int .i64 n), .lit (.string s.data.toList), it] : DataW H) := by simp only [Rows.uptoBulk, Rows.uptoBulkAll]; omega
   omega
  have hlen : len <= 1048576 := by have := elems_len it; rw [hA.size] at this; omega
  have hname : k = 3 -> nameB s.data.toList = true := by
   intro h3
   cases hnm : nameB s.data.toList with
   | true => rfl
   | false => rw [hnm, hf4n h3 rfl] at h1; cases h1
  rcases Nat.eq_zero_or_pos len with h0 | h0
  ·
   subst h0
   exact ⟨.mk k n s [], .mk k n s A cap [] [] rfl (Nat.zero_le _) hA.wide (fun h => absurd h (by simp)) (fun i h => absurd h (by simp)), ⟨⟨by simp only [Dt.k]; omega, hname, hs, by simp [Dt.l]⟩, by simp [Dt.l]⟩⟩
  ·
   obtain ⟨b, o, rfl, hbw, hrow⟩ := hA.at_ h0
   have hx : ∀ i : Fin len, ∃ x : List Value × Dt, RowAt w b (o + i.1 * 4) x.1 /\ DtIn w 0 w.heap.size x.1 x.2 /\ Good r x.2 := by
    intro i
    have hil : i.1 < (elems it).length := by rw [hA.size]; exact i.2
    obtain ⟨cs', hl, hr, hrd⟩ := hrow i.1 hil
    have h2 := bulks.part_le (List.getElem_mem hil)
    have h3 := elems_all it
    obtain ⟨t, ht1, ht2⟩ := dt_of_fault r w cs' _ hrd (hz _ (List.mem_map.2 ⟨_, List.getElem_mem hil, rfl⟩)) (by omega)
    exact ⟨(cs', t), hr, ht1, ht2⟩
   obtain ⟨f, hf⟩ := Classical.axiomOfChoice hx
   have hll : (List.ofFn fun i => (f i).2).length = len := by simp
   have hm := DtIn.mk (w := w) (lo := 0) (hi := w.heap.size) k n s (some ⟨b, o, none⟩) cap (List.ofFn fun i => (f i).2) (List.ofFn fun i => (f i).1) (by simp) (by simp; exact hA.le) hA.wide (fun _ => ⟨b, o, rfl, Nat.zero_le _, hbw, hbw, fun i hi => by
    have hi' : i < len := by simpa using hi
    rw [List.getElem_ofFn]
    exact (hf ⟨i, hi'⟩).1⟩) (fun i hi hi2 => by
    have hi' : i < len := by simpa using hi
    rw [List.getElem_ofFn, List.getElem_ofFn]
    exact (hf ⟨i, hi'⟩).2.1)
   rw [hll] at hm
   refine ⟨_, hm, ⟨⟨by simp only [Dt.k]; omega, hname, hs, by simp only [Dt.l]; rw [hll]; exact hlen⟩, ?_⟩⟩
   intro x hx
   simp only [Dt.l] at hx
   obtain ⟨i, rfl⟩ := List.mem_ofFn.1 hx
   exact (hf i).2.2
theorem Rd.rowD {W : World} {cs : List Value} {d : DataW H} (h : Rd enc W 22 cs d) (hb : Rows.uptoBulk d <= 1048576) : ∃ A N cap css fs ts, cs = [.slice A N cap] /\ RowD W W A N cap css fs ts /\ N <= 1048576 ∧
  ∀ i, (h : i < css.length) -> (h' : i < fs.length) -> ∀ w', Below W.heap.size W w' -> Calls Tryd.prog 15 #[.agg css[i].toArray] w' (fun e w'' => e = .returned (.int .i64 fs[i]) /\ Below w'.heap.size w' w'') := by
 obtain ⟨A, N, cap, rfl, hA⟩ := h.slAt Tryd.underlying22 cellsDatum (by decide)
 have hN : N <= 1048576 := by have := elems_len d; rw [hA.size] at this; omega
 rcases Nat.eq_zero_or_pos N with h0 | h0
 ·
  subst h0
  exact ⟨A, 0, cap, [], [], [], rfl, ⟨rfl, rfl, rfl, Nat.zero_le _, hA.wide, fun h => absurd h (by simp), fun i h => absurd h (by simp), fun i h => absurd h (by simp), fun i h => absurd h (by simp)⟩, hN, fun i h => absurd h (by simp)⟩
 ·
  obtain ⟨b, o, rfl, hbw, hrow⟩ := hA.at_ h0
  have hx : ∀ i : Fin N, ∃ x : List Value × Int × Dt, ∃ dd, RowAt W b (o + i.1 * 4) x.1 /\ Rd enc W 38 x.1 dd /\ x.2.1 = fault 40 dd /\ (x.2.1 = 0 -> DtIn W 0 W.heap.size x.1 x.2.2 /\ Good 40 x.2.2) := by
   intro i
   have hil : i.1 < (elems d).length := by rw [hA.size]; exact i.2
   obtain ⟨cs', hl, hr, hrd⟩ := hrow i.1 hil
   have h2 := bulks.part_le (List.getElem_mem hil)
   have h3 := elems_all d
   by_cases hf : fault 40 (elems d)[i.1] = 0
   ·
    obtain ⟨t, ht1, ht2⟩ := dt_of_fault 40 W cs' _ hrd hf (by omega)
    exact ⟨(cs', fault 40 (elems d)[i.1], t), _, hr, hrd, rfl, fun _ => ⟨ht1, ht2⟩⟩
   ·
    exact ⟨(cs', fault 40 (elems d)[i.1], dt0), _, hr, hrd, rfl, fun h => absurd h hf⟩
  obtain ⟨f, hf⟩ := Classical.axiomOfChoice hx
  have hrd : ∀ i, (hi : i < N) -> ∃ dd, Rd enc W 38 (f ⟨i, hi⟩).1 dd /\ (f ⟨i, hi⟩).2.1 = fault 40 dd := fun i hi => by
   obtain ⟨dd, _, h2, h3, _⟩ := hf ⟨i, hi⟩
   exact ⟨dd, h2, h3⟩
  refine ⟨some ⟨b, o, none⟩, N, cap, List.ofFn fun i => (f i).1, List.ofFn fun i => (f i).2.1, List.ofFn fun i => (f i).2.2, rfl, ⟨by simp, by simp, by simp, hA.le, hA.wide, fun _ => ⟨b, o, rfl, Nat.zero_le _, hbw, hbw, fun i hi => ?_⟩, fun i hi => ?_, fun i hi hi2 w' hb' => ?_, fun i hi hi2 hi3 hz => ?_⟩, hN, fun i hi hi2 w' hb' => ?_⟩
  ·
   have hi' : i < N := by simpa using hi
   rw [List.getElem_ofFn]
   obtain ⟨dd, h1, _⟩ := hf ⟨i, hi'⟩
   exact h1
  ·
   have hi' : i < N := by simpa using hi
   rw [List.getElem_ofFn]
   obtain ⟨dd, h2, _⟩ := hrd i hi'
   obtain ⟨k, n, s, A, len, cap, it, h, _⟩ := h2.datum
   exact ⟨k, n, s, A, len, cap, h⟩
  ·
   have hi' : i < N := by simpa using hi
   rw [List.getElem_ofFn, List.getElem_ofFn]
   obtain ⟨dd, h2, h3⟩ := hrd i hi'
   rw [h3]
   exact readCheck_any w' _ dd (h2.below readableDatum rowDatum hb')
  ·
   have hi' : i < N := by simpa using hi
   rw [List.getElem_ofFn] at hz
   rw [List.getElem_ofFn, List.getElem_ofFn]
   obtain ⟨dd, _, _, _, h4⟩ := hf ⟨i, hi'⟩
   exact h4 hz
  have hi' : i < N := by simpa using hi
  rw [List.getElem_ofFn, List.getElem_ofFn]
  obtain ⟨dd, h2, h3⟩ := hrd i hi'
  rw [h3]
  exact datumFault_any w' _ dd (h2.below readableDatum rowDatum hb')
end
def kitC : Kit {l : List Value // l.length = 4 /\ ∀ u ∈ l, u.oneCell' = true} where
 k := 4
 cells x := x.1
 len x := x.2.1
 one x := x.2.2
 ok w x := True
 uses x b := False
 lt w x b h hb := hb.elim
 kept w w' x row h hg hn := trivial
theorem css_flat {css : List (List Value)} (h : ∀ c ∈ css, c.length = 4) : css.flatten.length = css.length * 4 /\ ∀ i j, (hi : i < css.length) -> j < 4 -> css.flatten[i * 4 + j]? = css[i][j]? := by
 induction css with
 | nil => exact ⟨rfl, fun i j hi => absurd hi (by simp)⟩
 | cons c l ih =>
  obtain ⟨h1, h2⟩ := ih (fun x hx => h x (List.mem_cons_of_mem _ hx))
  have hc := h c (by simp)
  refine ⟨by simp [h1, hc]; omega, fun i j hi hj => ?_⟩
  cases i with
  | zero =>
   rw [List.flatten_cons, List.getElem?_append_left (by omega)]
   simp
  | succ i =>
   rw [List.flatten_cons, List.getElem?_append_right (by omega), hc, show (i + 1) * 4 + j - 4 = i * 4 + j by omega]
   have hi' : i < l.length := by simpa using hi
   rw [h2 i j hi' hj]
   simp
theorem step_app {W0 w : World} {A : Option Addr} {N cap : Nat} {css : List (List Value)} {fs : List Int} {ts : List Dt} (D : RowD W0 w A N cap css fs ts) (hN : N <= 1048576) {ops : Array Oper} {o : Oper} {act : Act} {KK : Act -> World -> Prop} {Q : Exit -> Act -> World -> Prop} {E : Prop} (hgd : o.guard = none) (s y : Operand)
  (ho : o.op = .call { callee := .builtin .append, args := #[s, y], argTypes := #[22, 22] }) (hs : act.eval s = .slice none 0 0) (hy : act.eval y = .slice A N cap)
  (h : ∀ A' c' w', RowD W0 w' A' N c' css fs ts -> Below w.heap.size w w' -> KK (act.put o.dst (.slice A' N c')) w') :
  if Region.wanted o (yielded ops act.tmps) = true then Oper.wp Tryd.prog o act w KK Q else E := by
 have hw : Region.wanted o (yielded ops act.tmps) = true := by simp [Region.wanted, hgd]
 rw [if_pos hw]
 obtain ⟨i0, z, hi, hz, hzs, hsize, hby⟩ := infoDatum_parts
 rcases Nat.eq_zero_or_pos N with h0 | h0
 ·
  subst h0
  have hr := Sh.run_append_zero (P := Tryd.prog) (w := w) w.heap.size 22 o.type 38 i0 4 Tryd.underlying22 hi (.slice none 0 0) 0 [] (World.ownsRow_nil _ _ _ _) A cap
  unfold Oper.wp execOp
  simp only [ho, resolve, invoke, builtin, Sem.run_bind, Sem.run_pure, Result.andThen_ok, List.map_toArray, List.map_cons, List.map_nil, hs, hy, hr]
  exact h none 0 w ⟨D.size, D.fsz, D.tsz, Nat.le_refl _, by unfold maxLen; omega, fun h1 => absurd h1 (by rw [D.size]; omega), D.each, D.chk, D.tree⟩ (Below.refl _ _)
 ·
  have hlen4 : ∀ c ∈ css, c.length = 4 := fun c hc => by
   obtain ⟨i, hi, rfl⟩ := List.getElem_of_mem hc
   obtain ⟨k, n, s, A, l, cap, e⟩ := D.each i hi
   rw [e]; rfl
  have hone : ∀ c ∈ css, ∀ u ∈ c, u.oneCell' = true := fun c hc => by
   obtain ⟨i, hi, rfl⟩ := List.getElem_of_mem hc
   obtain ⟨k, n, s, A, l, cap, e⟩ := D.each i hi
   rw [e]
   intro u hu
   simp only [List.mem_cons, List.not_mem_nil, or_false] at hu
   rcases hu with rfl | rfl | rfl | rfl <;> rfl
  obtain ⟨b, oo, rfl, _, _, hbw, hrow⟩ := D.row (by rw [D.size]; exact h0)
  obtain ⟨hfl, hfa⟩ := css_flat hlen4
  obtain ⟨v', w', hr, h1, h2, _, _⟩ := run_append_own_at (P := Tryd.prog) (w := w) w.heap.size 22 o.type 38 i0 z 4 56 Tryd.underlying22 hi hz hsize hby hzs (by decide) (.slice none 0 0) 0 [] (World.ownsRow_nil _ _ _ _) ⟨b, oo, none⟩ N cap css.flatten (by rw [hfl, D.size]) (by
   intro j u hj
   have hjl : j < css.length * 4 := by
    have := (List.getElem?_eq_some_iff.1 hj).1
    rwa [hfl] at this
   have ha : (Addr.add ⟨b, oo, none⟩ j) = ⟨b, oo + j, none⟩ := by unfold Addr.add; by_cases h0 : j = 0 <;> simp [h0]
   rw [ha]
   have e : j = (j / 4) * 4 + j % 4 := by omega
   have hq : j / 4 < css.length := by omega
   rw [e, hfa _ _ hq (by omega)] at hj
   have := hrow (j / 4) hq (j % 4) (by rw [hlen4 _ (List.getElem_mem hq)]; omega)
   rw [hj] at this
   rw [<- this, Nat.add_assoc, <- e]) (by
   intro u hu
   obtain ⟨c, hc, hu⟩ := List.mem_flatten.1 hu
   exact hone c hc u hu) (by unfold maxLen; omega) (by omega) (Nat.le_refl _)
  obtain ⟨X, hX⟩ : ∃ X : List {l : List Value // l.length = 4 /\ ∀ u ∈ l, u.oneCell' = true}, X.map kitC.cells = css := ⟨css.attach.map fun c => ⟨c.1, hlen4 _ c.2, hone _ c.2⟩, by rw [List.map_map]; exact List.attach_map_subtype_val css⟩
  have hXl : X.length = N := by rw [<- D.size, <- hX, List.length_map]
  have hO : OwnAt kitC 38 w.heap.size w' v' X := ⟨by rw [hXl, hX]; show w'.ownsRow _ _ 4 v' N css.flatten; simpa using h1, fun _ _ => trivial, fun _ _ _ h => h.elim, fun _ _ _ h => h.elim⟩
  obtain ⟨A', c', rfl, g1, g2, g3, _⟩ := hO.form
  rw [hXl] at g1 hr
  unfold Oper.wp execOp
  simp only [ho, resolve, invoke, builtin, Sem.run_bind, Sem.run_pure, Result.andThen_ok, List.map_toArray, List.map_cons, List.map_nil, hs, hy, hr]
  have hb : Below w.heap.size w w' := ⟨h2.os, h2.tape, h2.output, h2.size, fun k hk => h2.block k hk (by simp [Value.ownBlock])⟩
  refine h A' c' w' ⟨D.size, D.fsz, D.tsz, g1, g2, fun _ => ?_, D.each, D.chk, D.tree⟩ hb
  obtain ⟨b', o', rfl, hl, hc⟩ := g3.at_ (by rw [hXl]; exact h0)
  rw [hX] at hc
  exact ⟨b', o', rfl, Nat.zero_le _, hl, hl, fun i hi => (hc i hi).2⟩
def Rn.i {α : Type} : Rn α -> Nat | .ok _ => 0 | .bad i _ => i
def Rn.c {α : Type} : Rn α -> Int | .ok _ => 0 | .bad _ c => c
def Rn.u : Rn (List Sh × Un) -> List Sh × Un | .ok x => x | .bad _ _ => ([], ([], []))
def UnitN (W0 w : World) (B : Nat) (A1 : Option Addr) (n1 c1 : Nat) (A2 : Option Addr) (n2 c2 : Nat) (A3 : Option Addr) (n3 c3 : Nat) (x : List Sh × Un) : Prop := ∃ X D P, n1 = X.length /\ X.length <= c1 /\ c1 <= maxLen /\ zz w A1 X.length X /\ X.map Shp.sh = x.1 ∧
 OwnAt (kitDf W0 True) TDf B w (.slice A2 n2 c2) D /\ D.map DfV.pr = x.2.1 /\ OwnAt (kitUp W0 True) TUp B w (.slice A3 n3 c3) P /\ P.map UpV.pr = x.2.2
theorem UnitN.v {W0 w : World} {B : Nat} {A1 : Option Addr} {n1 c1 : Nat} {A2 : Option Addr} {n2 c2 : Nat} {A3 : Option Addr} {n3 c3 : Nat} {x : List Sh × Un} (h : UnitN W0 w B A1 n1 c1 A2 n2 c2 A3 n3 c3 x) : UnitV W0 w (.agg #[.slice A1 n1 c1, .slice A2 n2 c2, .slice A3 n3 c3]) x.1 x.2 := by
 obtain ⟨X, D, P, rfl, h1, h2, h3, h4, h5, h6, h7, h8⟩ := h
 exact ⟨A1, c1, X, B, _, D, _, P, rfl, h1, h2, h3, h4, h5, h6, h7, h8⟩
theorem UnitN.below {W0 w w' : World} {B : Nat} {A1 : Option Addr} {n1 c1 : Nat} {A2 : Option Addr} {n2 c2 : Nat} {A3 : Option Addr} {n3 c3 : Nat} {x : List Sh × Un} (h : UnitN W0 w B A1 n1 c1 A2 n2 c2 A3 n3 c3 x) (hb : Below w.heap.size w w') : UnitN W0 w' B A1 n1 c1 A2 n2 c2 A3 n3 c3 x := by
 obtain ⟨X, D, P, e, h1, h2, h3, h4, h5, h6, h7, h8⟩ := h
 exact ⟨X, D, P, e, h1, h2, h3.below hb, h4, h5.new hb, h6, h7.new hb, h8⟩
def UOut (W0 w : World) (r : Rn (List Sh × Un)) (e : Ending) (w' : World) : Prop := ∃ (B : Nat) (A1 : Option Addr) (n1 c1 : Nat) (A2 : Option Addr) (n2 c2 : Nat) (A3 : Option Addr) (n3 c3 : Nat), e = .returned (.tuple #[.agg #[.slice A1 n1 c1, .slice A2 n2 c2, .slice A3 n3 c3], .int .i64 r.i, .int .i64 r.c]) /\ w.heap.size <= B /\ UnitN W0 w' B A1 n1 c1 A2 n2 c2 A3 n3 c3 r.u /\ Below w.heap.size w w'
theorem UFin.out {W0 w w' : World} {e : Ending} {r : Rn (List Sh × Un)} (h : UFin W0 w e w' r) : UOut W0 w r e w' := by
 cases r with
 | bad i c =>
  obtain ⟨rfl, hb⟩ := h
  exact ⟨w.heap.size, none, 0, 0, none, 0, 0, none, 0, 0, rfl, Nat.le_refl _, ⟨[], [], [], rfl, Nat.le_refl _, by unfold maxLen; omega, ⟨rfl, fun h => absurd h (by simp), by simp⟩, rfl, OwnAt.start _ _ _ _, rfl, OwnAt.start _ _ _ _, rfl⟩, hb⟩
 | ok x =>
  obtain ⟨us, un⟩ := x
  obtain ⟨A1, c1, X, B, vD, D, vP, P, rfl, h1, h2, h3, h4, hB, h5, h6, h7, h8, hb⟩ := h
  obtain ⟨A2, c2, rfl, _, _, _⟩ := h5.dfs
  obtain ⟨A3, c3, rfl, _, _, _⟩ := h7.ups
  exact ⟨B, A1, _, c1, A2, _, c2, A3, _, c3, rfl, hB, ⟨X, D, P, rfl, h1, h2, h3, h4, h5, h6, h7, h8⟩, hb⟩
def UBlk (W0 w : World) (r : Rn (List Sh × Un)) (v5 v6 v7 : Value) (w' : World) : Prop := ∃ (p B : Nat) (A1 : Option Addr) (n1 c1 : Nat) (A2 : Option Addr) (n2 c2 : Nat) (A3 : Option Addr) (n3 c3 : Nat), v5 = .pointer (some ⟨p, 0, none⟩) /\ v6 = .int .i64 r.i /\ v7 = .int .i64 r.c /\ w.heap.size <= p /\ p < w'.heap.size /\ w'.cell? ⟨p, 0, none⟩ = some (.slice A1 n1 c1) /\ w'.cell? ⟨p, 1, none⟩ = some (.slice A2 n2 c2) /\ w'.cell? ⟨p, 2, none⟩ = some (.slice A3 n3 c3) /\ UnitN W0 w' B A1 n1 c1 A2 n2 c2 A3 n3 c3 r.u /\ Below w.heap.size w w'
theorem ublk_after {W0 w w1 w3 : World} {r : Rn (List Sh × Un)} {B : Nat} {A1 A2 A3 : Option Addr} {n1 c1 n2 c2 n3 c3 : Nat} {t : TypeId} (hb : Below w.heap.size w w1) (hb3 : Below w1.heap.size w1 w3) (hu : UnitN W0 w3 B A1 n1 c1 A2 n2 c2 A3 n3 c3 r.u) :
  UBlk W0 w r (.pointer (some ⟨w3.heap.size, 0, none⟩)) (.int .i64 r.i) (.int .i64 r.c) (w3.alloc (.cells #[.slice A1 n1 c1, .slice A2 n2 c2, .slice A3 n3 c3] t)) := by
 have ha : Below w3.heap.size w3 (w3.alloc (.cells #[.slice A1 n1 c1, .slice A2 n2 c2, .slice A3 n3 c3] t)) := (Below.refl _ _).alloc (Nat.le_refl _) _
 have h0 := hb.trans (hb3.mono hb.size)
 exact ⟨w3.heap.size, B, A1, n1, c1, A2, n2, c2, A3, n3, c3, rfl, rfl, rfl, h0.size, by simp, za _ _ _ 0, za _ _ _ 1, za _ _ _ 2, hu.below ha, h0.trans (ha.mono h0.size)⟩
theorem no_str {w : World} {p o : Nat} {s : ByteArray} (h : ∀ j, w.cell? ⟨p, j, none⟩ = (#[.slice none 0 0, .slice none 0 0, .slice none 0 0] : Array Value)[j]?) : w.cell? ⟨p, o, none⟩ ≠ some (.string s) := by
 rw [h o]
 match o with
 | 0 => simp
 | 1 => simp
 | 2 => simp
 | o + 3 => simp
theorem ublk_before {W0 w w0 w1 w3 : World} {p : Nat} {r : Rn (List Sh × Un)} {B : Nat} {A1 A2 A3 : Option Addr} {n1 c1 n2 c2 n3 c3 : Nat} (hp : w0.heap.size = p) (hb0 : Below w.heap.size w w0)
  (hb1 : Below (w0.alloc (.cells #[.slice none 0 0, .slice none 0 0, .slice none 0 0] 30)).heap.size (w0.alloc (.cells #[.slice none 0 0, .slice none 0 0, .slice none 0 0] 30)) w1) (hb3 : Below w1.heap.size w1 w3) (hB : w1.heap.size <= B) (hu : UnitN W0 w3 B A1 n1 c1 A2 n2 c2 A3 n3 c3 r.u) :
  UBlk W0 w r (.pointer (some ⟨p, 0, none⟩)) (.int .i64 r.i) (.int .i64 r.c) (((w3.setCell ⟨p, 0, none⟩ (.slice A1 n1 c1)).setCell ⟨p, 1, none⟩ (.slice A2 n2 c2)).setCell ⟨p, 2, none⟩ (.slice A3 n3 c3)) := by
 subst hp
 have hsz : (w0.alloc (.cells #[.slice none 0 0, .slice none 0 0, .slice none 0 0] 30)).heap.size = w0.heap.size + 1 := by simp
 have hb13 := hb1.trans (hb3.mono hb1.size)
 have s1 := hb1.size
 have s3 := hb13.size
 have hz : ∀ j, w3.cell? ⟨w0.heap.size, j, none⟩ = (#[.slice none 0 0, .slice none 0 0, .slice none 0 0] : Array Value)[j]? := fun j => (hb13.cell (p := ⟨w0.heap.size, j, none⟩) (by show w0.heap.size < _; omega)).trans (za _ _ _ j)
 have hg := grown3 w3 w0.heap.size (.slice A1 n1 c1) (.slice A2 n2 c2) (.slice A3 n3 c3)
 obtain ⟨X, D, P, e, h1, h2, h3, h4, h5, h6, h7, h8⟩ := hu
 have h3' := h3.kept hg.size (fun h0 a ha => hg.block _ (by
   obtain ⟨b, o, e1, hl, _⟩ := h3.at_ h0
   rw [ha] at e1
   cases e1
   exact hl) (fun e2 => by
   obtain ⟨b, o, e1, hl, hc⟩ := h3.at_ h0
   rw [ha] at e1
   cases e1
   have e3 : b = w0.heap.size := Option.some.inj e2
   subst e3
   exact no_str hz (hc 0 h0).1)) (fun x hx h0 a ha => hg.block _ (by
   obtain ⟨b, o, e1, hl, _⟩ := (h3.each x hx).strs.at_ h0
   rw [ha] at e1
   cases e1
   exact hl) (fun e2 => by
   obtain ⟨b, o, e1, hl, hc⟩ := (h3.each x hx).strs.at_ h0
   rw [ha] at e1
   cases e1
   have e3 : b = w0.heap.size := Option.some.inj e2
   subst e3
   have hss : 0 < x.ss.length := by rw [(h3.each x hx).strs.size]; exact h0
   exact no_str hz (hc 0 hss)))
 have hbw : Below w.heap.size w w3 := hb0.trans ((((Below.refl _ _).alloc (Nat.le_refl _) _ : Below w0.heap.size w0 (w0.alloc (.cells #[.slice none 0 0, .slice none 0 0, .slice none 0 0] 30))).trans (hb13.mono (by omega))).mono hb0.size)
 exact ⟨w0.heap.size, B, A1, n1, c1, A2, n2, c2, A3, n3, c3, rfl, rfl, rfl, hb0.size, by have := hg.size; omega, zj (zj (zk (hz 0)) (by decide)) (by decide), zj (zk (zj (hz 1) (by decide))) (by decide), zk (zj (zj (hz 2) (by decide)) (by decide)), ⟨X, D, P, e, h1, h2, h3', h4, h5.other hg (by omega), h6, h7.other hg (by omega), h8⟩, zu hbw hb0.size hg⟩
set_option maxHeartbeats 4000000 in
theorem unitForms_walk (W : World) (G S : Option Addr) (gl gc sl sc : Nat) (gs : List ByteArray) (L : List Shp) (hE : EnvAt W G gl gc gs S sl sc L) (hm : UMaps W) (A : Option Addr) (N cap : Nat) (css : List (List Value)) (fs : List Int) (ts : List Dt) (hD : RowD W W A N cap css fs ts) (hN : N <= 1048576)
  (hck : ∀ i, (h : i < css.length) -> (h' : i < fs.length) -> ∀ w', Below W.heap.size W w' -> Calls Tryd.prog 15 #[.agg css[i].toArray] w' (fun e w'' => e = .returned (.int .i64 fs[i]) /\ Below w'.heap.size w' w'')) :
  Calls Tryd.prog 3 #[.slice A N cap, .agg #[.slice G gl gc, .slice S sl sc]] W fun e w' => e = .returned (.bool true) /\ Below W.heap.size W w' := by
 obtain ⟨r, hr⟩ : ∃ r, unitAll gs (L.map Shp.sh) (envF gs L) fs ts = r := ⟨_, rfl⟩
 obtain ⟨wb, hwb⟩ : ∃ wb, W.alloc (.cells #[.slice G gl gc, .slice S sl sc] 26) = wb := ⟨_, rfl⟩
 have hb : Below W.heap.size W wb := by rw [<- hwb]; exact (Below.refl _ _).alloc (Nat.le_refl _) _
 have z0 : wb.cell? ⟨W.heap.size, 0, none⟩ = some (.slice G gl gc) := by rw [<- hwb]; exact za _ _ _ 0
 have z1 : wb.cell? ⟨W.heap.size, 1, none⟩ = some (.slice S sl sc) := by rw [<- hwb]; exact za _ _ _ 1
 have hWb : W.heap.size < wb.heap.size := by rw [<- hwb]; simp
 have HWB := Lib.hid hwb
 have HB := Lib.hid hb
 have HD := Lib.hid (hD.below hb)
 have KF := Lib.hid (fun (W1 : World) (A5 : Option Addr) (c5 : Nat) (hW : Below wb.heap.size wb W1) (hd : RowD W W1 A5 N c5 css fs ts) => (unitForm_any W W1 (hb.trans (hW.mono hb.size)) hm G S gl gc sl sc gs L hE A5 N c5 css fs ts hd hN).mono (fun e w' h => by rw [hr] at h; exact h.out))
 have KR := Lib.hid (fun (W1 : World) (hW : Below wb.heap.size wb W1) => (unitOf_any W W1 (hb.trans (hW.mono hb.size)) G S gl gc sl sc gs L hE A N cap css fs ts ((hD.below hb).below hW) hN hck).mono (fun e w' h => by rw [hr] at h; exact h.out))
 have HN := Lib.hid hN
 obtain ⟨ri, hri⟩ : ∃ ri : Int, (r.i : Int) = ri := ⟨_, rfl⟩
 obtain ⟨rc, hrc⟩ : ∃ rc : Int, r.c = rc := ⟨_, rfl⟩
 have HRI := Lib.hid hri
 have HRC := Lib.hid hrc
 clear hE hm hD hN hck hr hwb hb hri hrc
 go_enter Tryd.func3, Tryd.ntmps3
 go_upto_region 1 with fail
 rw [HWB.out]
 go_cut [5, 6, 7] (fun v5 v6 v7 wx => UBlk W wb r v5 v6 v7 wx)
 case first =>
  go_region_law (first | (refine step_app (HD.out.below (by (with_reducible repeat' (first | exact Below.refl _ _ | apply Below.drew | apply below_drewN | refine Below.alloc ?_ ?_ _)); all_goals (try simp); all_goals (try omega))) HN.out (by rfl) (.const (.slice none 0 0)) (.tmp 12) (by rfl) (by rfl) (by rfl) ?_; intro A5 c5 w5 hD5 hb5; have hk5 := (show Below wb.heap.size wb _ from (by (with_reducible repeat' (first | exact Below.refl _ _ | apply Below.drew | apply below_drewN | refine Below.alloc ?_ ?_ _)); all_goals (try simp); all_goals (try omega))).trans (hb5.mono (by first | exact Nat.le_refl _ | (simp; done) | omega | (simp; omega))); have w5b0 := (hk5.cell (p := ⟨W.heap.size, 0, none⟩) hWb).trans z0; have w5b1 := (hk5.cell (p := ⟨W.heap.size, 1, none⟩) hWb).trans z1; have hsw5 := hb5.size; (try simp at hsw5); (try replace hsw5 := Nat.lt_of_succ_le hsw5); obtain ⟨gw5, fw5⟩ := bcell hb5; have HK5 := Lib.hid hk5; have hk5s := hk5.size; have hW5 : W.heap.size < w5.heap.size := (by omega); have HD5 := Lib.hid hD5; have HB5 := Lib.hid hb5; clear hk5 hb5 hD5) | (go_simp; go_at_call 4; refine (KF.out _ A5 c5 (HK5.out.trans ((show Below w5.heap.size w5 _ from (by (with_reducible repeat' (first | exact Below.refl _ _ | apply Below.drew | apply below_drewN | refine Below.alloc ?_ ?_ _)); all_goals (try simp); all_goals (try omega))).mono hk5s)) (HD5.out.below (by (with_reducible repeat' (first | exact Below.refl _ _ | apply Below.drew | apply below_drewN | refine Below.alloc ?_ ?_ _)); all_goals (try simp); all_goals (try omega)))).mono ?_; rintro e w6 ⟨B, A1, n1, c1, A2, n2, c2, A3, n3, c3, rfl, hB, hu, hb6⟩; have hsw6 := hb6.size; (try simp at hsw6); (try replace hsw6 := Nat.lt_of_succ_le hsw6); obtain ⟨gw6, fw6⟩ := bcell hb6; have HB6 := Lib.hid hb6; have HU6 := Lib.hid hu; have HBB := Lib.hid hB; clear hb6 hu hB))
  all_goals (go_wp2_with fail)
  all_goals go_meet
  all_goals (first | (with_reducible refine ublk_after ?_ HB6.out HU6.out) | (with_reducible refine ublk_before (w0 := w5) rfl ?_ ?_ HB6.out HBB.out HU6.out) | (with_reducible refine ublk_before (w0 := wb) rfl ?_ ?_ HB6.out HBB.out HU6.out))
  all_goals (first | (with_reducible exact HK5.out) | (with_reducible exact HK5.out.drew) | (with_reducible exact Below.refl _ _) | (with_reducible exact (Below.refl _ _).drew) | (with_reducible exact HB5.out) | (with_reducible exact HB5.out.drew) | (with_reducible exact below_undrew HB5.out) | (with_reducible exact (below_undrew HB5.out).drew))
 obtain ⟨p, B, A1, n1, c1, A2, n2, c2, A3, n3, c3, rfl, rfl, rfl, hp, hpl, q0, q1, q2, hu, hbw⟩ := hcut
 rw [HRI.out, HRC.out]
 have b0 := (hbw.cell (p := ⟨W.heap.size, 0, none⟩) hWb).trans z0
 have b1 := (hbw.cell (p := ⟨W.heap.size, 1, none⟩) hWb).trans z1
 have HU := Lib.hid hu
 have HBW := Lib.hid hbw
 have hsc := hbw.size
 clear hu hbw z0 z1
 go_wp2_with fail
 refine (KR.out wc HBW.out).mono ?_
 rintro e w6 ⟨B', D1, m1, d1, D2, m2, d2, D3, m3, d3, rfl, _, hu6, hb6⟩
 rw [HRI.out, HRC.out]
 have k0 := (hb6.cell (p := ⟨p, 0, none⟩) hpl).trans q0
 have k1 := (hb6.cell (p := ⟨p, 1, none⟩) hpl).trans q1
 have k2 := (hb6.cell (p := ⟨p, 2, none⟩) hpl).trans q2
 obtain ⟨w7, hw7⟩ : ∃ w7, w6.alloc (.cells #[.slice D1 m1 d1, .slice D2 m2 d2, .slice D3 m3 d3] 30) = w7 := ⟨_, rfl⟩
 have hb67 : Below w6.heap.size w6 w7 := by rw [<- hw7]; exact (Below.refl _ _).alloc (Nat.le_refl _) _
 have hpl6 : p < w6.heap.size := Nat.lt_of_lt_of_le hpl hb6.size
 have j0 := (hb67.cell (p := ⟨p, 0, none⟩) hpl6).trans k0
 have j1 := (hb67.cell (p := ⟨p, 1, none⟩) hpl6).trans k1
 have j2 := (hb67.cell (p := ⟨p, 2, none⟩) hpl6).trans k2
 have i0 : w7.cell? ⟨w6.heap.size, 0, none⟩ = some (.slice D1 m1 d1) := by rw [<- hw7]; exact za _ _ _ 0
 have i1 : w7.cell? ⟨w6.heap.size, 1, none⟩ = some (.slice D2 m2 d2) := by rw [<- hw7]; exact za _ _ _ 1
 have i2 : w7.cell? ⟨w6.heap.size, 2, none⟩ = some (.slice D3 m3 d3) := by rw [<- hw7]; exact za _ _ _ 2
 have HW7 := Lib.hid hw7
 have hbb := HB.out.trans ((HBW.out.trans ((hb6.trans (hb67.mono hb6.size)).mono HBW.out.size)).mono HB.out.size)
 have HU7 := Lib.hid ((HU.out.below (hb6.trans (hb67.mono hb6.size))).v)
 have HR7 := Lib.hid ((hu6.below hb67).v)
 have HBB := Lib.hid hbb
 clear hw7 hb67 hbb hu6 hb6 k0 k1 k2 q0 q1 q2 b0 b1
 go_upto_region 3 with fail
 rw [HW7.out]
 go_wp2_with fail
 refine (sameUnit_any W w7 _ _ r.u.1 r.u.2 HBB.out HU7.out HR7.out).mono ?_
 rintro e w8 ⟨rfl, hb8⟩
 have HB8 := Lib.hid (HBB.out.trans (hb8.mono HBB.out.size))
 clear hb8
 go_wp2_with fail
 go_ret
 exact ⟨rfl, HB8.out⟩
namespace unitForms
theorem own : ownKnob Tryd.prog.godebug = none := by kernel_rfl
theorem maps {W : World} (h : laidMetH Tryd.prog Rows.unitFormsRow.laid W) : UMaps W := by
 rw [MakeChecks.laidMetH_plain _ _ _ (by kernel_rfl)] at h
 obtain ⟨ps, ⟨g0, t0, cs0, f0, p0, q0, hg0, ht0, hv0, hd0, ⟨g1, t1, cs1, f1, p1, q1, hg1, ht1, hv1, hd1, _, _⟩, _⟩, _, _⟩ := h
 exact ⟨kw_of hg0 ht0 hv0 hd0, ar_of (by kernel_rfl) (by kernel_rfl) hg1 ht1 hv1 hd1⟩
theorem contract (H : Type) (enc : TypeId × Value -> H) (W : World) (base : Nat) (args : Array Value) (ds gs : List (DataW H)) (before : List MemPlace)
  (hval : ∀ (j : Nat) t v, Tryd.f3.params[j]? = some t -> args[j]? = some v -> Value.okWide Tryd.prog W .any base t v)
  (hW : DataW.Whole enc Tryd.prog Tryd.f3.params.toList Rows.unitFormsSpec.vars false W args.toList ds gs before) (hk : Rows.uptoSmall H (ds ++ gs) = true) (hL : laidMetH Tryd.prog Rows.unitFormsRow.laid W) :
  Calls Tryd.prog 3 args W fun e W' => ∃ v, e = .returned v /\ Rows.unitFormsSpec.post enc Tryd.prog Tryd.f3 false true false false W args v W' := by
 have hW' := hW
 obtain ⟨p, q, hA0, hV, rfl, hfz, hnd⟩ := hW
 have hA : DataW.TrodAll enc Tryd.prog W 0 (fun _ => true) true Tryd.f3.params.toList args.toList ds p := hA0
 rw [Tryd.params3] at hA hval
 obtain ⟨v0, vs0, d0, ds0, p0, q0, hargs, rfl, rfl, h0, r0⟩ := trodAll_cons hA
 obtain ⟨v1, vs1, d1, ds1, p1, q1, rfl, rfl, rfl, h1, r1⟩ := trodAll_cons r0
 obtain ⟨rfl, rfl, rfl⟩ := trodAll_nil r1
 obtain rfl : args = #[v0, v1] := by cases args; simp_all
 obtain ⟨rfl, rfl⟩ := trodVars_none hV
 obtain ⟨A0, n0, k0, rfl⟩ : ∃ A n k, v0 = .slice A n k := okWide_slice Tryd.underlying22 (hval 0 _ _ rfl rfl)
 obtain ⟨cs1, rfl, hsz1⟩ := okWide_struct Tryd.underlying26 (hval 1 _ _ rfl rfl)
 obtain ⟨fu0, h0⟩ := h0
 obtain ⟨fu1, h1⟩ := h1
 have hbd := bulks.bound hk
 simp only [List.append_nil, Rows.uptoBulkAll] at hbd
 obtain ⟨A, N, cap, css, fs, ts, hcA, hD, hN, hck⟩ := Rd.rowD (enc := enc) (W := W) (cs := [.slice A0 n0 k0]) (d := d0) ⟨fu0, _, h0⟩ (by omega)
 obtain ⟨G, gl, gc, gs, S, sl, sc, L, hce, hE⟩ := Rd.env (enc := enc) (cs := cs1.toList) (d := d1) ⟨fu1, _, h1⟩
 obtain ⟨rfl, rfl, rfl⟩ : A0 = A /\ n0 = N /\ k0 = cap := by simpa using hcA
 have hcs : cs1 = #[.slice G gl gc, .slice S sl sc] := by
  obtain ⟨l⟩ := cs1
  exact congrArg List.toArray hce
 rw [hcs] at hW' ⊢
 refine (unitForms_walk W G S gl gc sl sc gs L hE (maps hL) A0 n0 k0 css fs ts hD hN hck).mono fun e W' ⟨he, hb⟩ => ⟨_, he, ?_⟩
 refine law_post (by kernel_rfl) rfl ⟨rfl, rfl, rfl⟩ ?_ hW' hb
 intro t ht
 rw [Tryd.params3] at ht
 simp at ht
 rcases ht with rfl | rfl
 ·
  exact ⟨by kernel_rfl, of_decide_eq_true (by kernel_rfl)⟩
 exact ⟨readableEnv, rowEnv⟩
theorem door_met (os : Os) (args : Array Value) : laidMet Tryd.prog Rows.unitFormsUptoRow.laid ((World.doorLaid Tryd.prog 144 os).forCall (fun _ _ => 0) ⟨#[], args, []⟩).memory :=
 laidMet_of_run' 8 (by kernel_rfl) (by kernel_rfl)
theorem reads (os : Os) {H : Type} (enc : TypeId × Value -> H) : ∃ places, DataW.whole enc Tryd.prog ((World.doorLaid Tryd.prog 144 os).forCall (fun _ _ => 0) ⟨#[], #[.slice none 0 0, .agg #[.slice none 0 0, .slice none 0 0]], []⟩).memory Tryd.f3.params.toList Rows.unitFormsSpec.vars false #[Value.slice none 0 0, .agg #[.slice none 0 0, .slice none 0 0]].toList 8 =
  some ([.nil, .agg [.nil, .nil]], [], places) :=
 ⟨[], by kernel_rfl⟩
set_option maxRecDepth 100000 in
theorem lifted (os : Os) (started : os.Started) (H : Type) (enc : TypeId × Value -> H) (F : Stop.Interp) :
  ReturnsInHanded {} Tryd.checked os 3 .any ((Rows.OpenSpec.upto Rows.unitFormsSpec).preRow enc Tryd.prog Tryd.f3 Rows.unitFormsUptoRow.domain false Rows.unitFormsUptoRow.laid) (((Rows.OpenSpec.upto Rows.unitFormsSpec).at F).post enc Tryd.prog Tryd.f3 false true false false) := by
 obtain ⟨places, hx⟩ := reads os enc
 refine returnsInHanded_of_row (C := Tryd.checked) (s := Rows.OpenSpec.upto Rows.unitFormsSpec) own started (by kernel_rfl) Tryd.func3
  (witness_row_atRef (enc := enc) (C := Tryd.checked) false (World.doorLaid Tryd.prog 144 os) #[.slice none 0 0, .agg #[.slice none 0 0, .slice none 0 0]] rfl (by kernel_rfl) (by kernel_rfl) (by kernel_rfl)
    (OpenSpec.preRow_of_cond 8 hx (by kernel_rfl) (fun k hk => by cases hk; kernel_rfl) (by kernel_rfl) (door_met os _))) ?_
 intro W base args ds gs before hval hW _ hcond _ hL _ _
 exact contract H enc W base args ds gs before hval hW (hcond _ rfl) hL
theorem said : Rows.UnitFormsUptoSaid :=
 OpenClaim.holds_of_cond 3 Tryd.f3 rfl rfl rfl rfl rfl rfl rfl ⟨rfl, rfl, rfl, rfl, rfl⟩ rfl rfl rfl rfl rfl (by kernel_rfl) Tryd.func3 (by kernel_rfl)
  (of_decide_eq_true (by kernel_rfl)) (by unfold Func.isWrapper; first | (rw [if_pos (by decide +kernel)]; kernel_rfl) | (rw [if_neg (by decide +kernel)]; exact ⟨rfl, rfl⟩))
  (fun os started H enc _ F => by rw [OpenClaim.pre_eq_preRow]; exact lifted os started H enc F)
theorem plain (f : FuncId) (fn : Func) (hf : Tryd.pinned.checked.prog.funcNamed "graftery/grafterylaw.UnitForms" = some f) (hfn : Tryd.pinned.checked.prog.funcs[f]? = some fn) :
  false = Tryd.pinned.checked.prog.looks [] /\ ∀ (j : Nat) t, fn.params[j]? = some t -> Tryd.pinned.checked.prog.wantsStandIn t = false := by
 obtain rfl : f = 3 := Option.some.inj ((show Tryd.prog.funcNamed "graftery/grafterylaw.UnitForms" = some 3 by kernel_rfl).symm.trans hf) |>.symm
 obtain rfl : fn = Tryd.f3 := (Option.some.inj (Tryd.func3.symm.trans hfn)).symm
 refine ⟨by kernel_rfl, fun j t ht => ?_⟩
 rw [Tryd.params3] at ht
 have ht2 : t = 22 \/ t = 26 := by simpa using Array.mem_of_getElem? ht
 rcases ht2 with rfl | rfl
 ·
  exact (show Tryd.prog.wantsStandIn 22 = false by kernel_rfl)
 exact (show Tryd.prog.wantsStandIn 26 = false by kernel_rfl)
end unitForms
theorem unitForms_upto_card : Rows.UnitFormsUptoCardSaid :=
 Claim7.holds_tied_plain_at .later [] _ _ _ _ unitForms.said (fun _ h => by cases h) (by kernel_rfl) (fun _ h => by cases h) unitFormsUpto_row_tie rfl ⟨rfl, rfl⟩ (by kernel_rfl) rfl unitForms.plain (by kernel_rfl)
end Go.Proofs.YtjmeodadkjcmmaaDoor
