import Derived.Test.YtjmeodadkjcmmaaDoorTopG
import Derived.Test.YtjmeodadkjcmmaaDoorShuB
import Derived.Test.YtjmeodadkjcmmaaDoorGEnv
namespace Go.Proofs.YtjmeodadkjcmmaaDoor
open Go.RowKit Go.ChangeShapes Go.WideShapes Go.Deep Go.ChangeAt
set_option linter.unusedVariables false
set_option maxRecDepth 20000
def firstBad : Nat -> List Int -> Option (Nat × Int)
 | _, [] => none
 | i, f :: fs => if f ≠ 0 then some (i, f) else firstBad (i + 1) fs
theorem firstBad_at : (fs : List Int) -> (i0 k : Nat) -> (hk : k < fs.length) -> (∀ j, j < k -> (hj : j < fs.length) -> fs[j] = 0) -> fs[k] ≠ 0 -> firstBad i0 fs = some (i0 + k, fs[k])
 | f :: fs, i0, 0, _, _, h => by simp only [List.getElem_cons_zero] at h ⊢; unfold firstBad; rw [if_pos h]; rfl
 | f :: fs, i0, k + 1, hk, hb, h => by
  have h0 : f = 0 := hb 0 (by omega) (by simp)
  unfold firstBad
  rw [if_neg (by simp [h0])]
  have := firstBad_at fs (i0 + 1) k (by simpa using hk) (fun j hj hj' => by have := hb (j + 1) (by omega) (by simpa using hj'); simpa using this) (by simpa using h)
  simp only [List.getElem_cons_succ]
  rw [this]
  congr 2
  omega
theorem firstBad_none : (fs : List Int) -> (i0 : Nat) -> (∀ j, (hj : j < fs.length) -> fs[j] = 0) -> firstBad i0 fs = none
 | [], _, _ => rfl
 | f :: fs, i0, h => by
  have h0 : f = 0 := h 0 (by simp)
  unfold firstBad
  rw [if_neg (by simp [h0])]
  exact firstBad_none fs (i0 + 1) (fun j hj => by have := h (j + 1) (by simpa using hj); simpa using this)
def unitR (gs : List ByteArray) (vsh : List Sh) (l : List Dt) : Rn (List Sh × Un) :=
 match runT zt ([], []) 0 l with
 | .bad i e => .bad i e
 | .ok st =>
  if 40 < (st.2.foldl addNew gs).length \/ 8 < (Sh.behindC (vsh ++ st.1)).length then .bad l.length 1
  else match runT (topT ⟨st.2.foldl addNew gs, Sh.behindC (vsh ++ st.1), [], false⟩ vsh st.1) ([], []) 0 l with
   | .bad i e => .bad i e
   | .ok un => .ok (st.1, un)
def unitAll (gs : List ByteArray) (vsh : List Sh) (ef : Int) (fs : List Int) (l : List Dt) : Rn (List Sh × Un) :=
 if ef ≠ 0 then .bad 0 ef else match firstBad 0 fs with
 | some (i, f) => .bad i f
 | none => unitR gs vsh l
section
variable {gs : List ByteArray} {vsh : List Sh} {ef : Int} {fs : List Int} {l : List Dt}
theorem unit_env (h : ef ≠ 0) : unitAll gs vsh ef fs l = .bad 0 ef := by unfold unitAll; rw [if_pos h]
theorem unit_datum (h : ef = 0) {k : Nat} (hk : k < fs.length) (hb : ∀ j, j < k -> (hj : j < fs.length) -> fs[j] = 0) (hf : fs[k] ≠ 0) : unitAll gs vsh ef fs l = .bad k fs[k] := by
 unfold unitAll; rw [if_neg (by simp [h]), firstBad_at fs 0 k hk hb hf]; simp
theorem unit_run (h : ef = 0) (hb : ∀ j, (hj : j < fs.length) -> fs[j] = 0) : unitAll gs vsh ef fs l = unitR gs vsh l := by
 unfold unitAll; rw [if_neg (by simp [h]), firstBad_none fs 0 hb]
theorem runT_at {σ : Type} {f : σ -> Dt -> Fd σ} {st a : σ} {k : Nat} (hk : k < l.length) {e : Int} (h : runT f st 0 (l.take k) = .ok a) (hc : f a l[k] = .err e) : runT f st 0 l = .bad k e := by
 have := runT_bad (l.take k) st 0 l[k] (l.drop (k + 1)) a e h hc
 rw [show l.take k ++ l[k] :: l.drop (k + 1) = l from by rw [<- List.drop_eq_getElem_cons hk, List.take_append_drop]] at this
 rw [this, List.length_take]
 congr 1
 omega
theorem runT_on {σ : Type} {f : σ -> Dt -> Fd σ} {st a b : σ} {k : Nat} (hk : k < l.length) (h : runT f st 0 (l.take k) = .ok a) (hc : f a l[k] = .ok b) : runT f st 0 (l.take (k + 1)) = .ok b := by
 rw [List.take_succ_eq_append_getElem hk]
 exact runT_snoc_ok _ _ _ _ _ _ h hc
theorem runT_each {σ : Type} {f : σ -> Dt -> Fd σ} : (l : List Dt) -> (st : σ) -> (i : Nat) -> (a : σ) -> runT f st i l = .ok a -> ∀ k, (hk : k < l.length) -> ∃ s s', f s l[k] = .ok s'
 | [], _, _, _, _, k, hk => absurd hk (by simp)
 | d :: l, st, i, a, h, k, hk => by
  simp only [runT] at h
  cases hd : f st d with
  | err e => rw [hd] at h; cases h
  | ok st' =>
   rw [hd] at h
   cases k with
   | zero => exact ⟨st, st', by simpa using hd⟩
   | succ k =>
    have := runT_each l st' (i + 1) a h k (by simpa using hk)
    simpa using this
variable {st : List Sh × List ByteArray}
theorem unit_collect {k : Nat} (hk : k < l.length) {e : Int} (h : runT zt ([], []) 0 (l.take k) = .ok st) (hc : zt st l[k] = .err e) : unitR gs vsh l = .bad k e := by
 unfold unitR; rw [runT_at hk h hc]
theorem unit_size (h : runT zt ([], []) 0 l = .ok st) (hn : 40 < (st.2.foldl addNew gs).length \/ 8 < (Sh.behindC (vsh ++ st.1)).length) : unitR gs vsh l = .bad l.length 1 := by
 unfold unitR; rw [h]; simp only; rw [if_pos hn]
theorem unit_form (h : runT zt ([], []) 0 l = .ok st) (hn : ¬ (40 < (st.2.foldl addNew gs).length \/ 8 < (Sh.behindC (vsh ++ st.1)).length)) {un : Un} {k : Nat} (hk : k < l.length) {e : Int}
  (h2 : runT (topT ⟨st.2.foldl addNew gs, Sh.behindC (vsh ++ st.1), [], false⟩ vsh st.1) ([], []) 0 (l.take k) = .ok un) (hc : topT ⟨st.2.foldl addNew gs, Sh.behindC (vsh ++ st.1), [], false⟩ vsh st.1 un l[k] = .err e) : unitR gs vsh l = .bad k e := by
 unfold unitR; rw [h]; simp only; rw [if_neg hn, runT_at hk h2 hc]
theorem unit_ok (h : runT zt ([], []) 0 l = .ok st) (hn : ¬ (40 < (st.2.foldl addNew gs).length \/ 8 < (Sh.behindC (vsh ++ st.1)).length)) {un : Un}
  (h2 : runT (topT ⟨st.2.foldl addNew gs, Sh.behindC (vsh ++ st.1), [], false⟩ vsh st.1) ([], []) 0 l = .ok un) : unitR gs vsh l = .ok (st.1, un) := by
 unfold unitR; rw [h]; simp only; rw [if_neg hn, h2]
end
theorem collectT_len {st st' : List Sh × List ByteArray} {d : Dt} (h : zt st d = .ok st') : st'.1.length <= st.1.length + 1 /\ st'.2.length <= st.2.length + 1 := by
 unfold zt at h
 cases hh : headF d with
 | none => rw [hh] at h; cases h
 | some q =>
  obtain ⟨s, rest⟩ := q
  rw [hh] at h
  simp only at h
  split at h
  ·
   cases hs : shapeT rest with
   | err e => rw [hs] at h; cases h
   | ok s =>
    rw [hs] at h
    simp only at h
    split at h
    ·
     cases h
    cases h; simp
  split at h
  ·
   cases hs : defT rest with
   | none => rw [hs] at h; cases h
   | some n =>
    rw [hs] at h
    simp only at h
    split at h
    ·
     cases h
    cases h; simp
  split at h
  ·
   cases h; simp
  cases h
theorem topT_len {p : Pl} {vsh ush : List Sh} {st st' : Un} {d : Dt} (h : topT p vsh ush st d = .ok st') : st'.1.length <= st.1.length + 1 /\ st'.2.length <= st.2.length + 1 := by
 unfold topT at h
 cases hh : headF d with
 | none => rw [hh] at h; cases h; simp
 | some q =>
  obtain ⟨s, rest⟩ := q
  rw [hh] at h
  simp only at h
  split at h
  ·
   cases hs : defX p rest with
   | err e => rw [hs] at h; cases h
   | ok s => rw [hs] at h; cases h; simp
  split at h
  ·
   cases hs : upX vsh ush st.2 rest with
   | err e => rw [hs] at h; cases h
   | ok s => rw [hs] at h; cases h; simp
  cases h; simp
theorem addNew_len : (ns gs : List ByteArray) -> (ns.foldl addNew gs).length <= gs.length + ns.length
 | [], gs => by simp
 | n :: ns, gs => by
  have h1 := addNew_len ns (addNew gs n)
  have h2 : (addNew gs n).length <= gs.length + 1 := by unfold addNew; split <;> simp
  simp only [List.foldl_cons, List.length_cons]
  omega
theorem addNew_take {ns gs : List ByteArray} {k : Nat} (hk : k < ns.length) : (ns.take (k + 1)).foldl addNew gs = addNew ((ns.take k).foldl addNew gs) ns[k] := by
 rw [List.take_succ_eq_append_getElem hk, List.foldl_append]; rfl
theorem firstErr_nil {l : List Int} (h : firstErr l = 0) : ∀ x ∈ l, x = 0 := by
 induction l with
 | nil => simp
 | cons a l ih =>
  rw [firstErr] at h
  by_cases ha : a = 0
  ·
   rw [if_pos ha] at h
   intro x hx
   rcases List.mem_cons.1 hx with rfl | hx
   ·
    exact ha
   exact ih h x hx
  rw [if_neg ha] at h
  exact absurd h ha
theorem shapeF_fields {n : ByteArray} {ss : List ByteArray} (h : shapeF n ss = 0) : ss.length <= 6 /\ ∀ f ∈ ss, 0 < f.size := by
 unfold shapeF at h
 split at h
 ·
  cases h
 split at h
 ·
  cases h
 refine ⟨by omega, fun f hf => ?_⟩
 obtain ⟨i, hi, rfl⟩ := List.getElem_of_mem hf
 have h0 := firstErr_nil h (fieldF ss i) (List.mem_map.2 ⟨i, by simpa using hi, rfl⟩)
 unfold fieldF at h0
 rw [show ss.getD i ByteArray.empty = ss[i] from by simp [hi]] at h0
 cases hn : nameB ss[i].data.toList with
 | false => rw [hn] at h0; simp at h0
 | true =>
  rcases Nat.eq_zero_or_pos ss[i].size with h1 | h1
  ·
   have h2 : ss[i].data.toList = [] := List.eq_nil_of_length_eq_zero (by rw [Array.length_toList]; exact h1)
   rw [h2] at hn
   cases hn
  exact h1
theorem envF_zero {gs : List ByteArray} {L : List Shp} (h : envF gs L = 0) : gs.length <= 40 /\ L.length <= 8 /\ ∀ x ∈ L, shapeF x.name x.ss = 0 := by
 unfold envF at h
 split at h
 ·
  cases h
 rename_i hn
 split at h
 ·
  rename_i h1; exact absurd h h1
 refine ⟨by omega, by omega, fun x hx => ?_⟩
 obtain ⟨i, hi, rfl⟩ := List.getElem_of_mem hx
 have h0 := firstErr_nil h (shpF L i) (List.mem_map.2 ⟨i, by simpa using hi, rfl⟩)
 unfold shpF at h0
 rw [List.getElem?_eq_getElem hi] at h0
 simp only at h0
 split at h0
 ·
  rename_i h1; exact absurd h0 h1
 rename_i h1; exact Decidable.not_not.1 h1
theorem mergeC_mem {Y : List Sh} {y z : Sh} (h : z ∈ Sh.mergeC Y y) : z ∈ Y \/ z = y := by
 unfold Sh.mergeC at h
 split at h
 ·
  rcases List.mem_append.1 h with h | h
  ·
   exact Or.inl h
  exact Or.inr (by simpa using h)
 exact List.mem_or_eq_of_mem_set h
theorem behind_mem : (L Y : List Sh) -> ∀ z ∈ L.foldl Sh.mergeC Y, z ∈ Y \/ z ∈ L
 | [], Y, z, h => Or.inl h
 | y :: L, Y, z, h => by
  rcases behind_mem L (Sh.mergeC Y y) z h with h | h
  ·
   rcases mergeC_mem h with h | rfl
   ·
    exact Or.inl h
   exact Or.inr (by simp)
  exact Or.inr (by simp [h])
theorem zy.cell {base U N : Nat} {w w' : World} (h : zy base U N w w') {p : Nat} (h1 : p < base) (h2 : p ≠ U) (h3 : p ≠ N) (j : Nat) : w'.cell? ⟨p, j, none⟩ = w.cell? ⟨p, j, none⟩ := World.cell?_of_block (a := ⟨p, j, none⟩) (h.block p h1 h2 h3)
theorem zy.frozen {base U N : Nat} {w w' : World} (h : zy base U N w w') {p : Nat} (h1 : p < base) (h2 : p ≠ U) (h3 : p ≠ N) (j : Nat) : w'.frozen? ⟨p, j, none⟩ = w.frozen? ⟨p, j, none⟩ := World.frozen?_of_block (a := ⟨p, j, none⟩) (h.block p h1 h2 h3)
theorem zy.under {base U N : Nat} {a b w0 : World} {B : Nat} (h : zy base U N a b) (hb : Below B w0 a) (h1 : B <= base) (h2 : B <= U) (h3 : B <= N) : Below B w0 b :=
 ⟨h.os.trans hb.os, h.tape.trans hb.tape, h.output.trans hb.output, Nat.le_trans hb.size h.size, fun k hk => (h.block k (by omega) (by omega) (by omega)).trans (hb.block k hk)⟩
structure FmIn (w wr : World) (G : Option Addr) (gl gc : Nat) (S : Option Addr) (sl sc : Nat) : Prop where
 c0 : wr.cell? ⟨w.heap.size, 0, none⟩ = some (.slice G gl gc)
 c1 : wr.cell? ⟨w.heap.size, 1, none⟩ = some (.slice S sl sc)
 r : ∀ j, wr.cell? ⟨w.heap.size + 1, j, none⟩ = (#[.slice none 0 0, .slice none 0 0, .slice none 0 0] : Array Value)[j]?
 rf : ∀ j, wr.frozen? ⟨w.heap.size + 1, j, none⟩ = false
 lt : w.heap.size + 1 < wr.heap.size
 below : Below w.heap.size w wr
section
variable {w wr w' : World} {G S : Option Addr} {gl gc sl sc : Nat}
theorem FmIn.blocks (h : FmIn w wr G gl gc S sl sc) (hb : Below w.heap.size w w') (hs : wr.heap.size <= w'.heap.size) (h0 : w'.heap[w.heap.size]? = wr.heap[w.heap.size]?) (h1 : w'.heap[w.heap.size + 1]? = wr.heap[w.heap.size + 1]?) : FmIn w w' G gl gc S sl sc :=
 ⟨(World.cell?_of_block (a := ⟨w.heap.size, 0, none⟩) h0).trans h.c0, (World.cell?_of_block (a := ⟨w.heap.size, 1, none⟩) h0).trans h.c1, fun j => (World.cell?_of_block (a := ⟨w.heap.size + 1, j, none⟩) h1).trans (h.r j), fun j => (World.frozen?_of_block (a := ⟨w.heap.size + 1, j, none⟩) h1).trans (h.rf j), Nat.lt_of_lt_of_le h.lt hs, hb⟩
theorem FmIn.next (h : FmIn w wr G gl gc S sl sc) (hb : Below wr.heap.size wr w') : FmIn w w' G gl gc S sl sc :=
 h.blocks (h.below.trans (hb.mono h.below.size)) hb.size (hb.block _ (by have := h.lt; omega)) (hb.block _ h.lt)
theorem FmIn.grown {base U N : Nat} (h : FmIn w wr G gl gc S sl sc) (hg : zy base U N wr w') (h1 : w.heap.size + 1 < base) (h2 : w.heap.size + 1 < U) (h3 : w.heap.size + 1 < N) : FmIn w w' G gl gc S sl sc :=
 h.blocks (hg.under h.below (by omega) (by omega) (by omega)) hg.size (hg.block _ (by omega) (by omega) (by omega)) (hg.block _ h1 (by omega) (by omega))
theorem FmIn.row {g : Nat} (h : FmIn w wr G gl gc S sl sc) (hg : wr.grownBy w' (some g)) (h1 : w.heap.size + 1 < g) : FmIn w w' G gl gc S sl sc := by
 have hl := h.lt
 refine h.blocks ⟨hg.os.trans h.below.os, hg.tape.trans h.below.tape, hg.output.trans h.below.output, Nat.le_trans h.below.size hg.size, fun k hk => (hg.block k (by omega) (fun e => by have := Option.some.inj e; omega)).trans (h.below.block k hk)⟩ hg.size (hg.block _ (by omega) (fun e => by have := Option.some.inj e; omega)) (hg.block _ hl (fun e => by have := Option.some.inj e; omega))
theorem FmIn.start (w : World) (G S : Option Addr) (gl gc sl sc : Nat) (t t2 : TypeId) : FmIn w ((w.alloc (.cells #[.slice G gl gc, .slice S sl sc] t)).alloc (.cells #[.slice none 0 0, .slice none 0 0, .slice none 0 0] t2)) G gl gc S sl sc := by
 have z : (w.alloc (.cells #[.slice G gl gc, .slice S sl sc] t)).heap.size = w.heap.size + 1 := by simp
 refine ⟨(World.cell?_alloc_lt _ _ ⟨w.heap.size, 0, none⟩ (by simp)).trans (za _ _ _ 0), (World.cell?_alloc_lt _ _ ⟨w.heap.size, 1, none⟩ (by simp)).trans (za _ _ _ 1), fun j => ?_, fun j => ?_, by simp, ((Below.refl _ _).alloc (Nat.le_refl _) _).alloc (by simp) _⟩
 ·
  rw [<- z]; exact za _ _ _ j
 rw [<- z]; simp
end
def SV.shp (x : SV) : Shp := ⟨x.name, x.A, x.ss.length, x.cap, x.ss⟩
theorem OwnAt.shps {w : World} {base : Nat} {v : Value} {X : List SV} (h : OwnAt kitSh TS base w v X) : ∃ A cap, v = .slice A X.length cap /\ X.length <= cap /\ cap <= maxLen /\ zz w A X.length (X.map SV.shp) := by
 obtain ⟨A, cap, rfl, h1, h2, hn⟩ := h.nes
 refine ⟨A, cap, rfl, h1, h2, by simp, fun h0 => ?_, fun y hy => ?_⟩
 ·
  obtain ⟨b, o, hA, hl, hc⟩ := hn.at_ h0
  refine ⟨b, o, hA, hl, fun i hi => ?_⟩
  have hx : i < X.length := by simpa using hi
  have := hc i (by simpa using hx)
  rw [List.getElem_map] at this ⊢
  exact this
 obtain ⟨x, hx, rfl⟩ := List.mem_map.1 hy
 obtain ⟨hk, _, hg⟩ := h.each x hx
 exact ⟨rfl, hg.wide, hk.strs, hg.each, hk.le, hk.cap_⟩
theorem zz.kept {w w' : World} {A : Option Addr} {len : Nat} {L : List Shp} (h : zz w A len L) (hs : w.heap.size <= w'.heap.size) (hb : 0 < len -> ∀ a, A = some a -> w'.heap[a.block]? = w.heap[a.block]?) (hx : ∀ x ∈ L, 0 < x.len -> ∀ a, x.A = some a -> w'.heap[a.block]? = w.heap[a.block]?) : zz w' A len L :=
 ⟨h.size, fun h0 => by
  obtain ⟨b, o, rfl, hl, hc⟩ := h.at_ h0
  refine ⟨b, o, rfl, Nat.lt_of_lt_of_le hl hs, fun i hi => ?_⟩
  rw [World.cell?_of_block (a := ⟨b, o + i * 2, none⟩) (hb h0 ⟨b, o, none⟩ rfl), World.cell?_of_block (a := ⟨b, o + i * 2 + 1, none⟩) (hb h0 ⟨b, o, none⟩ rfl)]
  exact hc i hi, fun x hx' => by
  have hx0 := h.each x hx'
  exact ⟨hx0.cells, hx0.wide, hx0.strs.kept hs (fun h0 a ha => hx x hx' h0 a ha), hx0.each, hx0.le, hx0.cap_⟩⟩
structure RowD (W0 w : World) (A : Option Addr) (N cap : Nat) (css : List (List Value)) (fs : List Int) (ts : List Dt) : Prop where
 size : css.length = N
 fsz : fs.length = N
 tsz : ts.length = N
 le : N <= cap
 cap_ : cap <= maxLen
 row : RowK w 0 w.heap.size 4 A css
 each : ∀ i, (h : i < css.length) -> ∃ k n s A l cap, css[i] = [.int .i64 k, .int .i64 n, .string s, .slice A l cap]
 chk : ∀ i, (h : i < css.length) -> (h' : i < fs.length) -> ∀ w', Below W0.heap.size W0 w' -> Calls Tryd.prog 8 #[.agg css[i].toArray] w' (fun e w'' => e = .returned (.int .i64 fs[i]) /\ Below w'.heap.size w' w'')
 tree : ∀ i, (h : i < css.length) -> (h' : i < fs.length) -> (h'' : i < ts.length) -> fs[i] = 0 -> DtIn W0 0 W0.heap.size css[i] ts[i] /\ Good 40 ts[i]
theorem RowD.below {W0 w w' : World} {A : Option Addr} {N cap : Nat} {css : List (List Value)} {fs : List Int} {ts : List Dt} (h : RowD W0 w A N cap css fs ts) (hb : Below w.heap.size w w') : RowD W0 w' A N cap css fs ts :=
 ⟨h.size, h.fsz, h.tsz, h.le, h.cap_, h.row.mono (zw hb) hb.size (Nat.le_refl _) hb.size, h.each, h.chk, h.tree⟩
theorem RowD.nth {W0 w : World} {A : Option Addr} {N cap : Nat} {css : List (List Value)} {fs : List Int} {ts : List Dt} (h : RowD W0 w A N cap css fs ts) (i : Nat) (hi : i < N) :
  ∃ b o k n s A' l' c', A = some ⟨b, o, none⟩ /\ b < w.heap.size /\ w.cell? ⟨b, o + i * 4, none⟩ = some (.int .i64 k) /\ w.cell? ⟨b, o + i * 4 + 1, none⟩ = some (.int .i64 n) /\ w.cell? ⟨b, o + i * 4 + 2, none⟩ = some (.string s) /\ w.cell? ⟨b, o + i * 4 + 3, none⟩ = some (.slice A' l' c') /\ css[i]'(by rw [h.size]; exact hi) = [.int .i64 k, .int .i64 n, .string s, .slice A' l' c'] := by
 have hi' : i < css.length := by rw [h.size]; exact hi
 obtain ⟨b, o, hA, _, _, hl, hr⟩ := h.row (by omega)
 obtain ⟨k, n, s, A', l', c', hc⟩ := h.each i hi'
 have := hr i hi'
 rw [hc] at this
 exact ⟨b, o, k, n, s, A', l', c', hA, hl, this 0 (by simp), this 1 (by simp), this 2 (by simp), this 3 (by simp), hc⟩
theorem RowD.nthT {W0 w : World} {A : Option Addr} {N cap : Nat} {css : List (List Value)} {fs : List Int} {ts : List Dt} (h : RowD W0 w A N cap css fs ts) (hz : ∀ j, (hj : j < fs.length) -> fs[j] = 0) (i : Nat) (hi : i < N) :
  ∃ b o A' c', A = some ⟨b, o, none⟩ /\ b < w.heap.size /\ Good 40 (ts[i]'(by rw [h.tsz]; exact hi)) /\ DtIn W0 0 W0.heap.size [.int .i64 (ts[i]'(by rw [h.tsz]; exact hi)).k, .int .i64 (ts[i]'(by rw [h.tsz]; exact hi)).n, .string (ts[i]'(by rw [h.tsz]; exact hi)).s, .slice A' (ts[i]'(by rw [h.tsz]; exact hi)).l.length c'] (ts[i]'(by rw [h.tsz]; exact hi)) ∧
   w.cell? ⟨b, o + i * 4, none⟩ = some (.int .i64 (ts[i]'(by rw [h.tsz]; exact hi)).k) /\ w.cell? ⟨b, o + i * 4 + 1, none⟩ = some (.int .i64 (ts[i]'(by rw [h.tsz]; exact hi)).n) /\ w.cell? ⟨b, o + i * 4 + 2, none⟩ = some (.string (ts[i]'(by rw [h.tsz]; exact hi)).s) /\ w.cell? ⟨b, o + i * 4 + 3, none⟩ = some (.slice A' (ts[i]'(by rw [h.tsz]; exact hi)).l.length c') := by
 have hi1 : i < css.length := by rw [h.size]; exact hi
 have hi2 : i < fs.length := by rw [h.fsz]; exact hi
 have hi3 : i < ts.length := by rw [h.tsz]; exact hi
 obtain ⟨b, o, k, n, s, A', l', c', hA, hl, h0, h1, h2, h3, hc⟩ := h.nth i hi
 obtain ⟨hd, hg⟩ := h.tree i hi1 hi2 hi3 (hz i hi2)
 generalize ts[i] = d at hd hg ⊢
 rw [hc] at hd
 cases hd with
 | mk k n s A cap l cs hl1 a1 a2 row each =>
  exact ⟨b, o, A', c', hA, hl, hg, .mk k n s A' c' l cs hl1 a1 a2 row each, h0, h1, h2, h3⟩
def UFin (W0 w : World) (e : Ending) (w' : World) : Rn (List Sh × Un) -> Prop
 | .bad i c => e = .returned (.tuple #[.agg #[.slice none 0 0, .slice none 0 0, .slice none 0 0], .int .i64 i, .int .i64 c]) /\ Below w.heap.size w w'
 | .ok (us, un) => ∃ A1 c1 X B vD D vP P, e = .returned (.tuple #[.agg #[.slice A1 X.length c1, vD, vP], .int .i64 0, .int .i64 0]) /\ X.length <= c1 /\ c1 <= maxLen /\ zz w' A1 X.length X /\ X.map Shp.sh = us ∧
   w.heap.size <= B /\ OwnAt (kitDf W0 True) TDf B w' vD D /\ D.map DfV.pr = un.1 /\ OwnAt (kitUp W0 True) TUp B w' vP P /\ P.map UpV.pr = un.2 /\ Below w.heap.size w w'
theorem wpList_s2 {base : Nat} {ops : Array Oper} {rest : List Oper} {o : Oper} {act : Act} {Q : Exit -> Act -> World -> Prop} {w : World} (hgd : o.guard = none) (s y : Operand)
  (ho : o.op = .call { callee := .builtin .append, args := #[s, y], argTypes := #[23, 23] })
  {v : Value} {X : List ByteArray} (hO : OwnAt kitS 9 base w v X) (x : ByteArray) (cs : Array Value) (hcs : cs.toList = kitS.cells x)
  (hs : act.eval s = v) (hy : act.eval y = .slice (some ⟨w.heap.size, 0, none⟩) 1 1) (hb : X.length + 1 <= 2097152) (hbase : base <= w.heap.size)
  (h : ∀ v' w', OwnAt kitS 9 base w' v' (X ++ [x]) -> w.grownBy w' v.ownBlock -> wpList Tryd.prog ops Q rest (act.put o.dst v') w') : wpList Tryd.prog ops Q (o :: rest) act (w.alloc (.cells cs 9)) := by
 obtain ⟨i0, hi, hz0, hz1, hz2⟩ := info_parts infoString
 exact wpList_own hgd s y ho Tryd.underlying23 hi hz0 hz1 hz2 rfl (by decide) hO x cs hcs trivial (fun b hb => hb.elim) (fun b hb => hb.elim) hs hy (by unfold maxLen; omega) hbase (fun v' w' h1 h2 _ => h v' w' h1 h2)
theorem ColAt.start {W0 w : World} (hb : Below W0.heap.size W0 w) (hm : UMaps W0) (cF : Array Value) (t0 t1 t2 : TypeId) : ColAt W0 (((w.alloc (.cells cF t0)).alloc (.cells #[.slice none 0 0, .slice none 0 0, .slice none 0 0] t1)).alloc (.cells #[.slice none 0 0] t2)) (w.heap.size + 3) (w.heap.size + 1) (w.heap.size + 2) (.slice none 0 0) (.slice none 0 0) [] [] := by
 have z1 : (w.alloc (.cells cF t0)).heap.size = w.heap.size + 1 := by simp
 have z2 : ((w.alloc (.cells cF t0)).alloc (.cells #[.slice none 0 0, .slice none 0 0, .slice none 0 0] t1)).heap.size = w.heap.size + 2 := by simp
 have hU : ∀ j, (((w.alloc (.cells cF t0)).alloc (.cells #[.slice none 0 0, .slice none 0 0, .slice none 0 0] t1)).alloc (.cells #[.slice none 0 0] t2)).cell? ⟨w.heap.size + 1, j, none⟩ = (#[.slice none 0 0, .slice none 0 0, .slice none 0 0] : Array Value)[j]? := fun j => by
  rw [World.cell?_alloc_lt _ _ ⟨w.heap.size + 1, j, none⟩ (by simp), <- z1]; exact za _ _ _ j
 have hN : ∀ j, (((w.alloc (.cells cF t0)).alloc (.cells #[.slice none 0 0, .slice none 0 0, .slice none 0 0] t1)).alloc (.cells #[.slice none 0 0] t2)).cell? ⟨w.heap.size + 2, j, none⟩ = (#[.slice none 0 0] : Array Value)[j]? := fun j => by
  rw [<- z2]; exact za _ _ _ j
 have hs := hb.size
 refine ⟨((hb.alloc hb.size _).alloc (by simp; omega) _).alloc (by simp; omega) _, hm, by omega, by omega, by omega, by omega, by omega, by simp, hU 0, hU 1, hU 2, hN 0, fun j => ?_, fun j => ?_, OwnAt.start _ _ _ _, OwnAt.start _ _ _ _, fun b h1 h2 => (by cases h1), fun x hx => absurd hx (by simp)⟩
 ·
  exact (Below.frozen (p := ⟨w.heap.size + 1, j, none⟩) ((Below.refl _ _).alloc (Nat.le_refl _) (.cells #[.slice none 0 0] t2)) (by show w.heap.size + 1 < _; rw [z2]; omega)).trans (by rw [<- z1]; exact zi _ _ _ j)
 rw [<- z2]; exact zi _ _ _ j
/- Memory of unit.Form, second part. -/
theorem OwnAt.shpsC {w w' : World} {base base2 U N : Nat} {v : Value} {X : List SV} (h : OwnAt kitSh TS base w v X) (hg : zy base2 U N w w') (hs : w.heap.size <= base2) (hU : U < base) (hN : N < base) :
  ∃ A cap, v = .slice A X.length cap /\ X.length <= cap /\ cap <= maxLen /\ zz w' A X.length (X.map SV.shp) /\ NEsAt w' A X.length (X.map SV.ne) /\ (0 < X.length -> ∀ a, A = some a -> base <= a.block /\ a.block < w.heap.size) /\ ∀ x ∈ X.map SV.shp, 0 < x.len -> ∀ a, x.A = some a -> base <= a.block /\ a.block < w.heap.size := by
 obtain ⟨A, cap, rfl, h1, h2, hS⟩ := h.shps
 obtain ⟨A', cap', he, _, _, hn⟩ := h.nes
 cases he
 have hA : 0 < X.length -> ∀ a, A = some a -> base <= a.block /\ a.block < w.heap.size := by
  intro h0 a ha
  obtain ⟨_, _, e, _, _, _, hb⟩ := h.form
  cases e
  refine ⟨hb a ha, ?_⟩
  obtain ⟨b, o, e, hl, _⟩ := hS.at_ h0
  rw [ha] at e
  cases e
  exact hl
 have hX : ∀ x ∈ X.map SV.shp, 0 < x.len -> ∀ a, x.A = some a -> base <= a.block /\ a.block < w.heap.size := by
  intro y hy h0 a ha
  obtain ⟨x, hx, rfl⟩ := List.mem_map.1 hy
  obtain ⟨hk, _, _⟩ := h.each x hx
  obtain ⟨b, o, e, l1, l2, l3, _⟩ := hk.at_ h0
  have ha' : x.A = some a := ha
  rw [ha'] at e
  cases e
  exact ⟨h.from_ x hx b ⟨l1, l2⟩, l3⟩
 have hblk : ∀ b, base <= b -> b < w.heap.size -> w'.heap[b]? = w.heap[b]? := fun b l1 l2 => hg.block b (by omega) (by omega) (by omega)
 exact ⟨A, cap, rfl, h1, h2, hS.kept hg.size (fun h0 a ha => hblk _ (hA h0 a ha).1 (hA h0 a ha).2) (fun x hx h0 a ha => hblk _ (hX x hx h0 a ha).1 (hX x hx h0 a ha).2), hn.kept hg.size (fun h0 a ha => hblk _ (hA h0 a ha).1 (hA h0 a ha).2), hA, hX⟩
theorem own_of_strs {w : World} {base : Nat} {v : Value} {n : Nat} {ss : List ByteArray} (h : w.ownsRow base 9 1 v n (ss.map Value.string)) (hn : ss.length = n) : OwnAt kitS 9 base w v ss := by
 subst hn
 exact ⟨by rw [flat_s]; exact h, fun _ _ => trivial, fun _ _ _ h => h.elim, fun _ _ _ h => h.elim⟩
structure FzAt (w : World) (F : Nat) : Prop where
 c : ∀ j, 1 < j -> w.cell? ⟨F, j, none⟩ = (#[.slice none 0 0, .slice none 0 0, .slice none 0 0, .bool false, .int .i64 0] : Array Value)[j]?
 z : ∀ j, w.frozen? ⟨F, j, none⟩ = false
def fmOf (F : Nat) (G : Option Addr) (gc : Nat) (gs : List ByteArray) (S : Option Addr) (sc : Nat) (X : List Shp) : Fm := ⟨F, G, gs.length, gc, gs, S, X.length, sc, X, none, 0, 0, [], false⟩
theorem former_start {W0 w : World} {F base2 B8 : Nat} {G S : Option Addr} {gc sc : Nat} {gs : List ByteArray} {X : List Shp} (hb : Below W0.heap.size W0 w) (hm : UMaps W0) (hF : W0.heap.size <= F) (hlt : F < w.heap.size) (h0 : w.cell? ⟨F, 0, none⟩ = some (.slice G gs.length gc)) (h1 : w.cell? ⟨F, 1, none⟩ = some (.slice S X.length sc)) (hz : FzAt w F)
  (hO : OwnAt kitS 9 base2 w (.slice G gs.length gc) gs) (hF2 : F < base2) (hS : zz w S X.length X) (hle : X.length <= sc) (hcap : sc <= maxLen) (hS8 : 0 < X.length -> ∃ g, S = some ⟨g, 0, none⟩ /\ B8 <= g) (hX8 : ∀ x ∈ X, ∀ a, x.A = some a -> 0 < x.len -> B8 <= a.block) (hF8 : F < B8) : zx W0 w (fmOf F G gc gs S sc X) 0 := by
 obtain ⟨A, cap, e, hsc, hn⟩ := own_names (lo := base2) hO hF2 (Nat.le_refl _)
 cases e
 exact ⟨hb, hF, hlt, hm, h0, h1, hz.c 2 (by decide), hz.c 3 (by decide), hz.c 4 (by decide), hz.z, hn.strs, hn.le, hn.cap_, fun _ a ha => hsc.off a ha, ⟨hS, fun h a ha => by
  obtain ⟨g, e, hg⟩ := hS8 h
  rw [e] at ha
  cases ha
  show g ≠ F
  omega, fun x hx h a ha => by
  have := hX8 x hx a ha h
  show a.block ≠ F
  omega⟩, hle, hcap, ⟨rfl, fun h => absurd h (Nat.lt_irrefl 0)⟩, Nat.le_refl _, by unfold maxLen; exact Nat.zero_le _, fun h => absurd h (Nat.lt_irrefl 0)⟩
theorem fmOff_start {w : World} {F U base2 B8 : Nat} {G S : Option Addr} {gc sc : Nat} {gs : List ByteArray} {X : List Shp} (hO : OwnAt kitS 9 base2 w (.slice G gs.length gc) gs) (hU : U < base2) (hS : zz w S X.length X) (hS8 : 0 < X.length -> ∃ g, S = some ⟨g, 0, none⟩ /\ B8 <= g) (hX8 : ∀ x ∈ X, ∀ a, x.A = some a -> 0 < x.len -> B8 <= a.block) (hU8 : U < B8) : FmOff (fmOf F G gc gs S sc X) w.heap.size U := by
 obtain ⟨A, cap, e, hsc, hn⟩ := own_names (lo := base2) hO hU (Nat.le_refl _)
 cases e
 refine ⟨fun h a ha => ⟨?_, hsc.off a ha⟩, fun h a ha => ?_, fun x hx h a ha => ?_, fun h => absurd h (Nat.lt_irrefl 0)⟩
 ·
  obtain ⟨b, o, e, hl, _⟩ := hsc.strs.at_ h
  have ha' : G = some a := ha
  rw [ha'] at e
  cases e
  exact hl
 ·
  obtain ⟨g, e, hg⟩ := hS8 h
  obtain ⟨b, o, e2, hl, _⟩ := hS.at_ h
  have ha' : S = some a := ha
  rw [ha'] at e e2
  cases e2
  cases e
  exact ⟨hl, by show g ≠ U; omega⟩
 have h2 := hX8 x hx a ha h
 obtain ⟨b, o, e2, hl, _⟩ := (hS.each x hx).strs.at_ h
 rw [ha] at e2
 cases e2
 have h3 : B8 <= b := h2
 exact ⟨hl, by show b ≠ U; omega⟩
theorem un_start {W0 w : World} {m : Fm} {base U : Nat} {A : Option Addr} {cap : Nat} {S : List NE} (hW : W0.heap.size <= U) (hU : U < base) (hne : U ≠ m.F) (hF : m.F < base) (hb : base <= w.heap.size) (ho : FmOff m base U) (h0 : w.cell? ⟨U, 0, none⟩ = some (.slice A S.length cap)) (h1 : w.cell? ⟨U, 1, none⟩ = some (.slice none 0 0)) (h2 : w.cell? ⟨U, 2, none⟩ = some (.slice none 0 0)) (hf : ∀ j, w.frozen? ⟨U, j, none⟩ = false)
  (hle : S.length <= cap) (hc : cap <= maxLen) (hn : NEsAt w A S.length S) (ha : 0 < S.length -> ∀ a, A = some a -> a.block < base /\ a.block ≠ U /\ a.block ≠ m.F) : UnAt W0 w base m U (.slice A S.length cap) (.slice none 0 0) (.slice none 0 0) S True [] [] :=
 ⟨hW, hU, hne, hF, hb, ho, h0, h1, h2, hf, ⟨A, cap, rfl, hle, hc, hn, ha⟩, OwnAt.start _ _ _ _, OwnAt.start _ _ _ _, fun b h => (by cases h), fun x hx => absurd hx (by simp), fun x hx => absurd hx (by simp)⟩
theorem below3 {w wr : World} {g : Nat} (hg : w.heap.size <= g) (hb : Below w.heap.size w wr) (u0 u1 u2 : Value) : Below w.heap.size w (((wr.setCell ⟨g, 0, none⟩ u0).setCell ⟨g, 1, none⟩ u1).setCell ⟨g, 2, none⟩ u2) := ((hb.setCell hg u0).setCell hg u1).setCell hg u2
theorem grown3 (w : World) (g : Nat) (u0 u1 u2 : Value) : w.grownBy (((w.setCell ⟨g, 0, none⟩ u0).setCell ⟨g, 1, none⟩ u1).setCell ⟨g, 2, none⟩ u2) (some g) := ((zd w g 0 u0).trans (zd _ g 1 u1)).trans (zd _ g 2 u2)
theorem uf_ok {W0 w w2 wr w' : World} {m : Fm} {base base2 B U : Nat} {A : Option Addr} {cap : Nat} {vS vD vP : Value} {X : List SV} {D : List DfV} {P : List UpV} {un : Un} (hb : Below w.heap.size w wr) (hU : UnAt W0 wr base m U vS vD vP (X.map SV.ne) True D P) (hX : OwnAt kitSh TS B w2 (.slice A X.length cap) X) (hg : zy base2 U m.F w2 wr) (hs : w2.heap.size <= base2) (hsb : w2.heap.size <= base) (hUB : U < B) (hFB : m.F < B) (hw : w.heap.size + 1 < B) (hwb : w.heap.size + 1 < base) (hD : D.map DfV.pr = un.1) (hP : P.map UpV.pr = un.2) {us : List Sh} (hus : X.map SV.sh = us) (hw' : wr.grownBy w' (some (w.heap.size + 1))) :
  UFin W0 w (.returned (.tuple #[.agg #[.slice A X.length cap, vD, vP], .int .i64 0, .int .i64 0])) w' (.ok (us, un)) := by
 obtain ⟨A', cap', e, h1, h2, hS, _, hA, hXX⟩ := hX.shpsC hg hs hUB hFB
 cases e
 have hl : X.length = (X.map SV.shp).length := by simp
 have hb0 := hb.size
 refine ⟨A, cap, X.map SV.shp, base, vD, D, vP, P, by rw [<- hl], by rw [<- hl]; exact h1, h2, ?_, ?_, by omega, hU.oD.other hw' hwb, hD, hU.oP.other hw' hwb, hP, ?_⟩
 ·
  rw [<- hl]
  have hbs := hU.bs
  exact hS.kept hw'.size (fun h0 a ha => hw'.block _ (by have := (hA h0 a ha).2; omega) (fun e => by have := Option.some.inj e; have := (hA h0 a ha).1; omega)) (fun x hx h0 a ha => hw'.block _ (by have := (hXX x hx h0 a ha).2; omega) (fun e => by have := Option.some.inj e; have := (hXX x hx h0 a ha).1; omega))
 ·
  rw [<- hus, List.map_map]; rfl
 exact ⟨hw'.os.trans hb.os, hw'.tape.trans hb.tape, hw'.output.trans hb.output, Nat.le_trans hb.size hw'.size, fun k hk => (hw'.block k (by omega) (fun e => by have := Option.some.inj e; omega)).trans (hb.block k hk)⟩
theorem col_world {W0 wr w3 : World} {F : Nat} (hb : Below W0.heap.size W0 wr) (hm : UMaps W0) (hF : wr.heap.size = F) {t0 t1 t2 : TypeId} (hw : (((wr.alloc (.cells #[.slice none 0 0, .slice none 0 0, .slice none 0 0, .bool false, .int .i64 0] t0)).alloc (.cells #[.slice none 0 0, .slice none 0 0, .slice none 0 0] t1)).alloc (.cells #[.slice none 0 0] t2)) = w3) :
  ColAt W0 w3 (F + 3) (F + 1) (F + 1 + 1) (.slice none 0 0) (.slice none 0 0) [] [] /\ Below wr.heap.size wr w3 /\ (∀ j, w3.cell? ⟨F, j, none⟩ = (#[.slice none 0 0, .slice none 0 0, .slice none 0 0, .bool false, .int .i64 0] : Array Value)[j]?) /\ ∀ j, w3.frozen? ⟨F, j, none⟩ = false := by
 subst hF hw
 have b1 : Below (wr.alloc (.cells #[.slice none 0 0, .slice none 0 0, .slice none 0 0, .bool false, .int .i64 0] t0)).heap.size (wr.alloc (.cells #[.slice none 0 0, .slice none 0 0, .slice none 0 0, .bool false, .int .i64 0] t0)) (((wr.alloc (.cells #[.slice none 0 0, .slice none 0 0, .slice none 0 0, .bool false, .int .i64 0] t0)).alloc (.cells #[.slice none 0 0, .slice none 0 0, .slice none 0 0] t1)).alloc (.cells #[.slice none 0 0] t2)) := ((Below.refl _ _).alloc (Nat.le_refl _) _).alloc (by simp) _
 refine ⟨ColAt.start hb hm _ _ _ _, (((Below.refl _ _).alloc (Nat.le_refl _) _).alloc (by simp) _).alloc (by simp; omega) _, fun j => ?_, fun j => ?_⟩
 ·
  exact (b1.cell (p := ⟨wr.heap.size, j, none⟩) (by simp)).trans (za _ _ _ j)
 exact (b1.frozen (p := ⟨wr.heap.size, j, none⟩) (by simp)).trans (zi _ _ _ j)
structure GlAt (B2 F : Nat) (wa w : World) (v : Value) (X : List ByteArray) : Prop where
 own : OwnAt kitS 9 B2 w v X
 c0 : w.cell? ⟨F, 0, none⟩ = some v
 cs : ∀ j, 0 < j -> w.cell? ⟨F, j, none⟩ = (#[.slice none 0 0, .slice none 0 0, .slice none 0 0, .bool false, .int .i64 0] : Array Value)[j]?
 fz : ∀ j, w.frozen? ⟨F, j, none⟩ = false
 grown : zy B2 F F wa w
theorem zh (w : World) {F i j : Nat} (u : Value) (h : i ≠ j) : (w.setCell ⟨F, i, none⟩ u).cell? ⟨F, j, none⟩ = w.cell? ⟨F, j, none⟩ := World.cell?_setCell_other (h := fun e => h (by cases e; rfl)) ..
theorem GlAt.put {B2 F : Nat} {wa w w5 : World} {v u : Value} {X Y : List ByteArray} (h : GlAt B2 F wa w v X) (hF : F < B2) (hs : B2 <= w.heap.size) (hO : OwnAt kitS 9 B2 w5 u Y) (hg : w.grownBy w5 v.ownBlock) :
  GlAt B2 F wa (w5.setCell ⟨F, 0, none⟩ u) u Y /\ w5.cell? ⟨F, 0, none⟩ = some v /\ w5.frozen? ⟨F, 0, none⟩ = false := by
 have hv : ∀ k, v.ownBlock = some k -> B2 <= k := fun k hk => (h.own.row.lt k hk).1
 have hb : w5.heap[F]? = w.heap[F]? := hg.block F (by omega) (fun e => by have := hv F e.symm; omega)
 have hc : ∀ j, w5.cell? ⟨F, j, none⟩ = w.cell? ⟨F, j, none⟩ := fun j => World.cell?_of_block (a := ⟨F, j, none⟩) hb
 have hf : ∀ j, w5.frozen? ⟨F, j, none⟩ = false := fun j => (World.frozen?_of_block (a := ⟨F, j, none⟩) hb).trans (h.fz j)
 refine ⟨⟨hO.other (zd w5 F 0 u) hF, zk ((hc 0).trans h.c0), fun j hj => (zh w5 u (by omega)).trans ((hc j).trans (h.cs j hj)), fun j => by rw [World.frozen?_setCell]; exact hf j, h.grown.trans ((zy.row hg hv hs).trans (zy.setU w5 0 u))⟩, (hc 0).trans h.c0, hf 0⟩
theorem GlAt.start {F : Nat} {w w5 : World} {u : Value} {Y : List ByteArray} (hz : ∀ j, w.cell? ⟨F, j, none⟩ = (#[.slice none 0 0, .slice none 0 0, .slice none 0 0, .bool false, .int .i64 0] : Array Value)[j]?) (hf : ∀ j, w.frozen? ⟨F, j, none⟩ = false) (hF : F < w.heap.size) (hb : Below w.heap.size w w5) (hO : OwnAt kitS 9 w.heap.size w5 u Y) :
  GlAt w.heap.size F w (w5.setCell ⟨F, 0, none⟩ u) u Y := by
 have hc : ∀ j, w5.cell? ⟨F, j, none⟩ = w.cell? ⟨F, j, none⟩ := fun j => hb.cell (p := ⟨F, j, none⟩) hF
 have hf5 : ∀ j, w5.frozen? ⟨F, j, none⟩ = false := fun j => (hb.frozen (p := ⟨F, j, none⟩) hF).trans (hf j)
 exact ⟨hO.other (zd w5 F 0 u) hF, zk ((hc 0).trans (hz 0)), fun j hj => (zh w5 u (by omega)).trans ((hc j).trans (hz j)), fun j => by rw [World.frozen?_setCell]; exact hf5 j, (zy.below hb (Nat.le_refl _)).trans (zy.setU w5 0 u)⟩
theorem zy.low {base base2 U N : Nat} {a b : World} (h : zy base U N a b) (hb : base2 <= base) : zy base2 U N a b := ⟨h.os, h.tape, h.output, h.size, fun k hk => h.block k (by omega)⟩
theorem zy.both {base F U : Nat} {a b : World} (h : zy base F F a b) : zy base U F a b := ⟨h.os, h.tape, h.output, h.size, fun k hk _ h2 => h.block k hk h2 h2⟩
theorem former_world {B2 F : Nat} {wa wr w8 : World} {v u : Value} {X : List ByteArray} (h : GlAt B2 F wa wr v X) (hF : F < B2) (hs : B2 <= wr.heap.size) (hb : Below wr.heap.size wr w8) :
  GlAt B2 F wa w8 v X /\ (w8.cell? ⟨F, 1, none⟩ = some (.slice none 0 0)) /\ (w8.setCell ⟨F, 1, none⟩ u).cell? ⟨F, 0, none⟩ = some v /\ (w8.setCell ⟨F, 1, none⟩ u).cell? ⟨F, 1, none⟩ = some u /\ FzAt (w8.setCell ⟨F, 1, none⟩ u) F /\ OwnAt kitS 9 B2 (w8.setCell ⟨F, 1, none⟩ u) v X /\ zy B2 F F wa (w8.setCell ⟨F, 1, none⟩ u) := by
 have hc : ∀ j, w8.cell? ⟨F, j, none⟩ = wr.cell? ⟨F, j, none⟩ := fun j => hb.cell (p := ⟨F, j, none⟩) (by show F < _; omega)
 have hf : ∀ j, w8.frozen? ⟨F, j, none⟩ = false := fun j => (hb.frozen (p := ⟨F, j, none⟩) (by show F < _; omega)).trans (h.fz j)
 have h1 : w8.cell? ⟨F, 1, none⟩ = some (.slice none 0 0) := (hc 1).trans (h.cs 1 (by decide))
 have h8 : GlAt B2 F wa w8 v X := ⟨h.own.new hb, (hc 0).trans h.c0, fun j hj => (hc j).trans (h.cs j hj), hf, h.grown.trans (zy.below hb hs)⟩
 exact ⟨h8, h1, (zh w8 u (by decide)).trans h8.c0, zk h1, ⟨fun j hj => (zh w8 u (by omega)).trans (h8.cs j (by omega)), fun j => by rw [World.frozen?_setCell]; exact hf j⟩, h8.own.other (zd w8 F 1 u) hF, h8.grown.trans (zy.setU w8 1 u)⟩
theorem shapes_set {w : World} {F B8 : Nat} {u : Value} {A : Option Addr} {X : List Shp} (h : zz w A X.length X) (hF : F < B8) (hS8 : 0 < X.length -> ∃ g, A = some ⟨g, 0, none⟩ /\ B8 <= g) (hX8 : ∀ x ∈ X, ∀ a, x.A = some a -> 0 < x.len -> B8 <= a.block) (j : Nat) : zz (w.setCell ⟨F, j, none⟩ u) A X.length X :=
 h.kept (by simp [World.setCell]) (fun h0 a ha => heap_setCell_other w ⟨F, j, none⟩ a.block u (by
  obtain ⟨g, e, hg⟩ := hS8 h0
  rw [e] at ha
  cases ha
  show g ≠ F
  omega)) (fun x hx h0 a ha => heap_setCell_other w ⟨F, j, none⟩ a.block u (by
  have := hX8 x hx a ha h0
  show a.block ≠ F
  omega))
theorem fields_ok {w : World} {base : Nat} {v : Value} {L X8 : List Shp} {X : List SV} (hX : OwnAt kitSh TS base w v X) (hL : ∀ x ∈ L, shapeF x.name x.ss = 0) (h8 : X8.map Shp.sh = Sh.behindC ((L ++ X.map SV.shp).map Shp.sh)) : ∀ x ∈ X8, ∀ f ∈ x.ss, 0 < f.size := by
 intro x hx f hf
 have h1 : x.sh ∈ X8.map Shp.sh := List.mem_map.2 ⟨x, hx, rfl⟩
 rw [h8] at h1
 rcases behind_mem _ _ _ h1 with h | h
 ·
  simp at h
 obtain ⟨y, hy, e⟩ := List.mem_map.1 h
 have e2 : y.ss = x.ss := congrArg Prod.snd e
 rw [<- e2] at hf
 rcases List.mem_append.1 hy with hy | hy
 ·
  exact (shapeF_fields (hL y hy)).2 f hf
 obtain ⟨z, hz, rfl⟩ := List.mem_map.1 hy
 exact (shapeF_fields (hX.each z hz).2.2.good).2 f hf
theorem lens_ok {w w' : World} {base len len2 : Nat} {v : Value} {A A2 : Option Addr} {L : List Shp} {X : List SV} (hX : OwnAt kitSh TS base w v X) (hL : ∀ x ∈ L, shapeF x.name x.ss = 0) (hS : zz w' A len L) (hS2 : zz w' A2 len2 (X.map SV.shp)) : ∀ x ∈ L ++ X.map SV.shp, x.len <= 1099511627776 := by
 intro y hy
 rcases List.mem_append.1 hy with hy | hy
 ·
  have h1 := (hS.each y hy).strs.size
  have h2 := (shapeF_fields (hL y hy)).1
  omega
 have h1 := (hS2.each y hy).strs.size
 obtain ⟨z, hz, rfl⟩ := List.mem_map.1 hy
 have h2 : z.ss.length <= 6 := (shapeF_fields (hX.each z hz).2.2.good).1
 have h3 : z.shp.ss.length = z.ss.length := rfl
 omega
end Go.Proofs.YtjmeodadkjcmmaaDoor
