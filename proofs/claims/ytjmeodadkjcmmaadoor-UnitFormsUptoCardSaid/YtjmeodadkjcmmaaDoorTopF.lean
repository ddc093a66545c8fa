import Derived.Test.YtjmeodadkjcmmaaDoorTopE
import Derived.Test.YtjmeodadkjcmmaaDoorShuA
namespace Go.Proofs.YtjmeodadkjcmmaaDoor
open Go.RowKit Go.ChangeShapes Go.WideShapes Go.Deep Go.ChangeAt
set_option linter.unusedVariables false
set_option maxRecDepth 20000
structure EnvIn (W0 : World) (S : Option Addr) (sl sc : Nat) (L : List Shp) : Prop where
 s : zz W0 S sl L
 le : sl <= sc
 cap : sc <= maxLen
def FEnd (e : Ending) : Prop := e = .returned (.tuple #[])
def UpPost (W0 w : World) (base : Nat) (m : Fm) (U : Nat) (vS vD : Value) (S : List NE) (D : List DfV) (P : List UpV) (e : Ending) (w' : World) : Fd (ByteArray × List Ex) -> Prop
 | .ok x => FEnd e /\ zy base U m.F w w' /\ zx W0 w' m 0 /\ ∃ vP P', UnAt W0 w' base m U vS vD vP S True D P' /\ P'.map UpV.pr = P.map UpV.pr ++ [x]
 | .err c => FEnd e /\ zy base U m.F w w' /\ zx W0 w' m c /\ 1 <= c
theorem idxB_and {K : Int} {s : ByteArray} (ns : List ByteArray) : idxB (fun x => K == 3 && (x.toList == s.toList)) ns = if K = 3 then idxL ns s else -1 := by
 by_cases h : K = 3
 ·
  subst h; rw [if_pos rfl]
  have : (fun x : ByteArray => (3 : Int) == 3 && (x.toList == s.toList)) = fun x => x.toList == s.toList := by funext x; rfl
  rw [this]; rfl
 rw [if_neg h]
 have : (fun x : ByteArray => K == 3 && (x.toList == s.toList)) = fun x => false := by funext x; rw [show (K == 3) = false by simpa using h]; rfl
 rw [this]
 unfold idxB
 rw [if_neg]
 simp
theorem idxL_range2 (ns : List ByteArray) (s : ByteArray) : (inL ns s = true /\ ∃ k : Nat, idxL ns s = k /\ k < ns.length) \/ (inL ns s = false /\ idxL ns s = -1) := by
 cases h : inL ns s
 ·
  right
  exact ⟨rfl, by unfold idxL; rw [if_neg (by rw [h]; simp)]⟩
 left
 refine ⟨rfl, ns.findIdx fun x => x.toList == s.toList, by unfold idxL; rw [if_pos h], ?_⟩
 unfold inL at h
 obtain ⟨x, hx, hp⟩ := List.any_eq_true.1 h
 exact List.findIdx_lt_length_of_exists ⟨x, hx, hp⟩
theorem upX_none {vsh ush : List Sh} {ups : List (ByteArray × List Ex)} {h : Dt} {es : List Dt} (hc : ¬ (h.k = 3 /\ inL (vsh.map (·.1)) h.s = true /\ inL (ush.map (·.1)) h.s = true)) : upX vsh ush ups (h :: es) = .err 6 := by
 simp only [upX]; rw [if_neg hc]
section
variable {vsh ush : List Sh} {ups : List (ByteArray × List Ex)} {h : Dt} {es : List Dt} (hc : h.k = 3 /\ inL (vsh.map (·.1)) h.s = true /\ inL (ush.map (·.1)) h.s = true)
include hc
theorem upX_twice (h2 : inL (ups.map (·.1)) h.s = true) : upX vsh ush ups (h :: es) = .err 7 := by simp only [upX]; rw [if_pos hc, if_pos h2]
theorem upX_count (h2 : inL (ups.map (·.1)) h.s = false) (h3 : es.length ≠ (fieldsAt ush h.s).length) : upX vsh ush ups (h :: es) = .err 10 := by simp only [upX]; rw [if_pos hc, if_neg (by rw [h2]; simp), if_pos h3]
theorem upX_all (h2 : inL (ups.map (·.1)) h.s = false) (h3 : ¬ es.length ≠ (fieldsAt ush h.s).length) : upX vsh ush ups (h :: es) = mapF (fun xs => (h.s, xs)) (allF (formed ⟨[], [], fieldsAt vsh h.s, true⟩ 40 []) es) := by simp only [upX]; rw [if_pos hc, if_neg (by rw [h2]; simp), if_neg h3]
end
theorem fieldsAt_at {l : List Sh} {s : ByteArray} {k : Nat} (hk : k < l.length) (h : idxL (l.map (·.1)) s = k) : fieldsAt l s = l[k].2 := by
 unfold fieldsAt
 rw [h]
 simp [hk]
theorem infoUp : (Tryd.prog.info? 73).map (fun i => (i.zero.map (fun z => z.cells.size), i.size, i.bytes)) = some (some 2, 2, 40) := by kernel_rfl
theorem infoUp_parts : ∃ i z, Tryd.prog.info? 73 = some i /\ i.zero = some z /\ z.cells.size = 2 /\ i.size = 2 /\ i.bytes = 40 := by
 have h := infoUp
 cases hi : Tryd.prog.info? 73 with
 | none => rw [hi] at h; simp at h
 | some i =>
  rw [hi] at h
  simp only [Option.map_some, Option.some.injEq, Prod.mk.injEq] at h
  obtain ⟨h1, h2, h3⟩ := h
  cases hz : i.zero with
  | none => rw [hz] at h1; simp at h1
  | some z => rw [hz] at h1; exact ⟨i, z, rfl, hz, by simpa using h1, h2, h3⟩
theorem step_up {W0 : World} {pp : Prop} {base : Nat} {ops : Array Oper} {o : Oper} {act : Act} {KK : Act -> World -> Prop} {Q : Exit -> Act -> World -> Prop} {E : Prop} {w : World} (hgd : o.guard = none) (s y : Operand)
  (ho : o.op = .call { callee := .builtin .append, args := #[s, y], argTypes := #[28, 28] })
  {v : Value} {X : List UpV} (hO : OwnAt (kitUp W0 pp) TUp base w v X) (x : UpV) (cs : Array Value) (hcs : cs.toList = (kitUp W0 pp).cells x) (hx : (kitUp W0 pp).ok w x) (hfrom : ∀ b, (kitUp W0 pp).uses x b -> base <= b) (hap : ∀ b, (kitUp W0 pp).uses x b -> v.ownBlock ≠ some b)
  (hs : act.eval s = v) (hy : act.eval y = .slice (some ⟨w.heap.size, 0, none⟩) 1 1) (hb : X.length + 1 <= 1048580) (hbase : base <= w.heap.size)
  (h : ∀ v' w', OwnAt (kitUp W0 pp) TUp base w' v' (X ++ [x]) -> w.grownBy w' v.ownBlock -> (v'.ownBlock = v.ownBlock \/ ∃ b, v'.ownBlock = some b /\ w.heap.size <= b) -> KK (act.put o.dst v') w') :
  if Region.wanted o (yielded ops act.tmps) = true then Oper.wp Tryd.prog o act (w.alloc (.cells cs 73)) KK Q else E := by
 obtain ⟨i, z, hi, hz, hzs, hsize, hby⟩ := infoUp_parts
 exact step_ownV hgd s y ho Tryd.underlying28 hi hz hsize hby hzs (show 0 < 2 by decide) hO x cs hcs hx hfrom hap hs hy ⟨by omega, by unfold maxLen; omega⟩ hbase h
abbrev TE : TypeId := 63
def UpLaid (W0 w : World) (m2 : Fm) (nm : ByteArray) (n : Nat) (r : Fd (List Ex)) (v : Value) (w' : World) : Prop := ∃ (p : Nat) (A : Option Addr) (cap : Nat) (X : List EV), v = .pointer (some ⟨p, 0, none⟩) /\ w.heap.size <= p /\ p < w'.heap.size /\ w'.cell? ⟨p, 0, none⟩ = some (.string nm) /\ w'.cell? ⟨p, 1, none⟩ = some (.slice A n cap) /\ X.length = n /\ w.grownBy w' (some m2.F) ∧
 OwnAt kitAny TE w.heap.size w' (.slice A n cap) X /\ XsFact W0 w w' m2 (.slice A n cap) X r
theorem upLaid_after {W0 w w5 w6 : World} {m2 : Fm} {nm : ByteArray} {n : Nat} {r : Fd (List Ex)} {A : Option Addr} {cap : Nat} {X : List EV} {t : TypeId} (hb : Below w.heap.size w w5) (hX : X.length = n) (hg : w5.grownBy w6 (some m2.F)) (hO : OwnAt kitAny TE w5.heap.size w6 (.slice A n cap) X) (hx : XsFact W0 w5 w6 m2 (.slice A n cap) X r) :
  UpLaid W0 w m2 nm n r (.pointer (some ⟨w6.heap.size, 0, none⟩)) (w6.alloc (.cells #[.string nm, .slice A n cap] t)) := by
 have hb6 : Below w6.heap.size w6 (w6.alloc (.cells #[.string nm, .slice A n cap] t)) := (Below.refl _ _).alloc (Nat.le_refl _) _
 have hg6 := grownF_below ((zb hb (some m2.F)).trans hg) hb6
 refine ⟨w6.heap.size, A, cap, X, rfl, Nat.le_trans hb.size hg.size, by simp, za _ _ _ 0, za _ _ _ 1, hX, hg6, (hO.new hb6).lower hb.size, ?_⟩
 cases r with
 | ok xs => exact ⟨(hx.1.new hb6).lower hb.size, hx.2.1, (hb.trans (hx.2.2.mono hb.size)).trans (hb6.mono (Nat.le_trans hb.size hg.size))⟩
 | err c => exact ⟨hx.1, hx.2.next hb6⟩
theorem upLaid_before {W0 w w0 w5 w6 : World} {m2 : Fm} {nm : ByteArray} {n p : Nat} {r : Fd (List Ex)} {A : Option Addr} {cap : Nat} {X : List EV} {t : TypeId} (hwp : w0.heap.size = p) (hb0 : Below w.heap.size w w0) (hb1 : Below (w0.alloc (.cells #[.string ⟨#[]⟩, .slice none 0 0] t)).heap.size (w0.alloc (.cells #[.string ⟨#[]⟩, .slice none 0 0] t)) w5) (hF : m2.F < w.heap.size) (hX : X.length = n) (hg : w5.grownBy w6 (some m2.F)) (hO : OwnAt kitAny TE w5.heap.size w6 (.slice A n cap) X) (hx : XsFact W0 w5 w6 m2 (.slice A n cap) X r) (he : ∃ e, zx W0 w m2 e) :
  UpLaid W0 w m2 nm n r (.pointer (some ⟨p, 0, none⟩)) ((w6.setCell ⟨p, 0, none⟩ (.string nm)).setCell ⟨p, 1, none⟩ (.slice A n cap)) := by
 subst hwp
 have hz : (w0.alloc (.cells #[.string ⟨#[]⟩, .slice none 0 0] t)).heap.size = w0.heap.size + 1 := by simp
 have hs5 : w0.heap.size < w5.heap.size := by have := hb1.size; omega
 have hs6 : w0.heap.size < w6.heap.size := Nat.lt_of_lt_of_le hs5 hg.size
 have hb5 : Below w.heap.size w w5 := (hb0.alloc hb0.size _).trans (hb1.mono (by have := hb0.size; omega))
 have hcell : ∀ j, w6.cell? ⟨w0.heap.size, j, none⟩ = (w0.alloc (.cells #[.string ⟨#[]⟩, .slice none 0 0] t)).cell? ⟨w0.heap.size, j, none⟩ := fun j =>
  ((gcell hg).1 _ j hs5 (by have := hb0.size; omega)).trans (hb1.cell (p := ⟨w0.heap.size, j, none⟩) (by show w0.heap.size < _; omega))
 have c0 : w6.cell? ⟨w0.heap.size, 0, none⟩ = some (.string ⟨#[]⟩) := (hcell 0).trans (za _ _ _ 0)
 have c1 : w6.cell? ⟨w0.heap.size, 1, none⟩ = some (.slice none 0 0) := (hcell 1).trans (za _ _ _ 1)
 have hset : w6.grownBy ((w6.setCell ⟨w0.heap.size, 0, none⟩ (.string nm)).setCell ⟨w0.heap.size, 1, none⟩ (.slice A n cap)) (some w0.heap.size) := (zd _ _ _ _).trans (zd _ _ _ _)
 have hbs : Below w.heap.size w6 ((w6.setCell ⟨w0.heap.size, 0, none⟩ (.string nm)).setCell ⟨w0.heap.size, 1, none⟩ (.slice A n cap)) := ((Below.refl w.heap.size w6).setCell (p := ⟨w0.heap.size, 0, none⟩) hb0.size _).setCell (p := ⟨w0.heap.size, 1, none⟩) hb0.size _
 have hg06 : w.grownBy w6 (some m2.F) := (zb hb5 _).trans hg
 refine ⟨w0.heap.size, A, cap, X, rfl, hb0.size, by simpa [World.setCell] using hs6, zj (zk c0) (by decide), zk (zj c1 (by decide)), hX, ⟨hbs.os.trans hg06.os, hbs.tape.trans hg06.tape, hbs.output.trans hg06.output, Nat.le_trans hg06.size hbs.size, fun k hk hn => (hbs.block k hk).trans (hg06.block k hk hn)⟩, (hO.other hset hs5).lower hb5.size, ?_⟩
 cases r with
 | ok xs => exact ⟨(hx.1.other hset hs5).lower hb5.size, hx.2.1, (hb5.trans (hx.2.2.mono hb5.size)).trans hbs⟩
 | err c =>
  obtain ⟨e, he⟩ := he
  exact ⟨hx.1, (he.later hx.2 hg06 hbs).1⟩
theorem DsAt.fresh {W0 w : World} {F F2 : Nat} {A : Option Addr} {cap : Nat} {l : List Dt} (h : DsAt W0 w F A cap l) (hF : w.heap.size <= F2) : DsAt W0 w F2 A cap l :=
 ⟨h.le, h.cap_, fun h0 => by
  obtain ⟨b, o, hA, l1, _, hr⟩ := h.at_ h0
  exact ⟨b, o, hA, l1, by omega, hr⟩⟩
def upFm (F : Nat) (x : Shp) : Fm := ⟨F, none, 0, 0, [], none, 0, 0, [], x.A, x.len, x.cap, x.ss, true⟩
theorem upFm_at {W0 w : World} {m : Fm} {e : Int} {x : Shp} (hf : zx W0 w m e) (hx : x.At w) (w' : World) (hs : w'.heap.size = w.heap.size) (hb : Below w.heap.size w w') : zx W0 (w'.alloc (.cells #[.slice none 0 0, .slice none 0 0, .slice x.A x.len x.cap, .bool true, .int .i64 0] 42)) (upFm w.heap.size x) 0 := by
 have ha : Below w.heap.size w (w'.alloc (.cells #[.slice none 0 0, .slice none 0 0, .slice x.A x.len x.cap, .bool true, .int .i64 0] 42)) := hb.alloc (by rw [hs]; exact Nat.le_refl _) _
 have hn : ∀ ww, zb1 ww none 0 [] := fun ww => ⟨rfl, fun h => absurd h (by simp)⟩
 have hcell : ∀ j, (w'.alloc (.cells #[.slice none 0 0, .slice none 0 0, .slice x.A x.len x.cap, .bool true, .int .i64 0] 42)).cell? ⟨w.heap.size, j, none⟩ = (#[.slice none 0 0, .slice none 0 0, .slice x.A x.len x.cap, .bool true, .int .i64 0] : Array Value)[j]? := fun j => by rw [<- hs]; exact za _ _ _ j
 refine ⟨hf.below.trans (ha.mono hf.below.size), hf.below.size, by show w.heap.size < _; simp [hs], hf.maps, hcell 0, hcell 1, hcell 2, hcell 3, hcell 4, fun j => ?_, hn _, Nat.le_refl _, by show 0 <= maxLen; omega, fun h => absurd h (by simp [upFm]), ⟨⟨rfl, fun h => absurd h (by simp [upFm]), fun y hy => absurd hy (by simp [upFm])⟩, fun h => absurd h (by simp [upFm]), fun y hy => absurd hy (by simp [upFm])⟩, Nat.le_refl _, by show 0 <= maxLen; omega, hx.strs.below ha, hx.le, hx.cap_, ?_⟩
 ·
  show (w'.alloc _).frozen? ⟨w.heap.size, j, none⟩ = false
  rw [<- hs]; simp
 intro h0 a hA e
 have := hx.strs.lt hA h0
 have e' : a.block = w.heap.size := e
 omega
set_option maxHeartbeats 8000000 in
theorem upgrade_any {W0 w : World} {base : Nat} {m : Fm} {U : Nat} {vS vD vP : Value} {S : List NE} {D : List DfV} {P : List UpV} (h : UnAt W0 w base m U vS vD vP S True D P) (hf : zx W0 w m 0) (G : Option Addr) (gl gc : Nat) {Sa : Option Addr} {sl sc : Nat} {L : List Shp} (hE : EnvIn W0 Sa sl sc L) {ush : List Sh} (hS : S.map (fun x => (x.name, x.n)) = ush.map (fun s => (s.1, s.2.length)))
  (A : Option Addr) (c : Nat) (d : Dt) (es : List Dt) (hds : DsAt W0 w m.F A c (d :: es)) (hgd : ∀ x ∈ d :: es, Good 40 x) (hlen : (d :: es).length <= 1048576) (hP : P.length + 1 <= 1048576) :
  Calls Tryd.prog 47 #[.pointer (some ⟨m.F, 0, none⟩), .pointer (some ⟨U, 0, none⟩), .agg #[.slice G gl gc, .slice Sa sl sc], .slice A (d :: es).length c] w (fun e w' => UpPost W0 w base m U vS vD S D P e w' (upX (L.map Shp.sh) ush (P.map UpV.pr) (d :: es))) := by
 have H := Lib.hid h
 have HF := Lib.hid hf
 have HE := Lib.hid hE
 have HS := Lib.hid hS
 have HGD := Lib.hid hgd
 obtain ⟨p, q, A', c', rfl, hpw, hpF, e0, e1, e2, e3, hd, hi, ht⟩ := hds.first hf.below hf.ge
 have HT := Lib.hid ht
 have hcap := hds.le
 have hcm := hds.cap_
 unfold maxLen at hcm
 obtain ⟨M, hM⟩ : ∃ M, (d :: es).length = M := ⟨_, rfl⟩
 have HML := Lib.hid (show es.length = M - 1 by rw [<- hM, List.length_cons]; rfl)
 have hM1 : 1 <= M := by rw [<- hM]; simp
 rw [hM] at hlen hcap ⊢
 obtain ⟨r, hr⟩ : ∃ r, upX (L.map Shp.sh) ush (P.map UpV.pr) (d :: es) = r := ⟨_, rfl⟩
 have HR := Lib.hid hr
 rw [hr]
 obtain ⟨K, hK⟩ : ∃ K, d.k = K := ⟨_, rfl⟩
 have HK := Lib.hid hK
 rw [hK] at e0
 have hM0 : (0 : Int) <= (M : Int) := Int.natCast_nonneg _
 have hMw : IntKind.i64.wrap ((M : Int) - 1) = ((M - 1 : Nat) : Int) := by rw [IntWalk.i64_in _ (by omega)]; omega
 have hi1 : (1 : Int) <= (M : Int) := by omega
 have hi0' : (0 : Int) < (M : Int) := by omega
 have hM3 : 0 < M := by omega
 have hi2 : (M : Int) <= (c : Int) := by omega
 have hi3 : IntKind.i64.wrap 1 = 1 := IntWalk.i64_in _ (by omega)
 have hltU : U < w.heap.size := Nat.lt_of_lt_of_le h.ltU h.bs
 have hltF : m.F < w.heap.size := hf.lt
 obtain ⟨AS, capS, rfl, hS1, hS2, hnS, hoS⟩ := h.sS
 obtain ⟨AP, capP, rfl, hP1, hP2, hnP⟩ := h.oP.nesUp
 -- the two indices
 obtain ⟨iI, hiI⟩ : ∃ iI, idxB (fun x => K == 3 && (x.toList == d.s.toList)) (ne (L.map Shp.ne)) = iI := ⟨_, rfl⟩
 obtain ⟨kI, hkI⟩ : ∃ kI, idxB (fun x => K == 3 && (x.toList == d.s.toList)) (ne S) = kI := ⟨_, rfl⟩
 have hneL : ne (L.map Shp.ne) = (L.map Shp.sh).map (·.1) := by simp [ne, Shp.ne, Shp.sh]
 have hneS : ne S = ush.map (·.1) := by
  have := congrArg (List.map Prod.fst) hS
  simpa [ne, Function.comp_def] using this
 have hneP : ne (P.map UpV.ne) = (P.map UpV.pr).map (·.1) := by simp [ne, UpV.ne, UpV.pr]
 have HNS := Lib.hid hneS
 have HNL := Lib.hid hneL
 have HNP := Lib.hid hneP
 have HII := Lib.hid hiI
 have HKI := Lib.hid hkI
 obtain ⟨w1, hw1⟩ : ∃ w1, w1 = ((w.alloc (.cells #[.slice G gl gc, .slice Sa sl sc] 26)).alloc (.cells #[.slice (some ⟨p, q, none⟩) M c] 22)) := ⟨_, rfl⟩
 have hb1 : Below w.heap.size w w1 := by rw [hw1]; exact ((Below.refl _ _).alloc (Nat.le_refl _) _).alloc (by simp) _
 have hs1 : w1.heap.size = w.heap.size + 2 := by rw [hw1]; simp
 have b1 : w1.cell? ⟨w.heap.size, 1, none⟩ = some (.slice Sa sl sc) := by rw [hw1]; exact (World.cell?_alloc_lt _ _ ⟨w.heap.size, 1, none⟩ (by simp)).trans (za _ _ _ 1)
 have l0 : w1.cell? ⟨w.heap.size + 1, 0, none⟩ = some (.slice (some ⟨p, q, none⟩) M c) := by
  rw [hw1]
  have z : (w.alloc (.cells #[.slice G gl gc, .slice Sa sl sc] 26)).heap.size = w.heap.size + 1 := by simp
  rw [<- z]; exact za _ _ _ 0
 have f0 : w1.cell? ⟨p, q, none⟩ = some (.int .i64 K) := (hb1.cell (p := ⟨p, q, none⟩) hpw).trans e0
 have f2 : w1.cell? ⟨p, q + 2, none⟩ = some (.string d.s) := (hb1.cell (p := ⟨p, q + 2, none⟩) hpw).trans e2
 have HU1 := Lib.hid (h.next hb1)
 have HF1 := Lib.hid (hf.next hb1)
 have u0 : w1.cell? ⟨U, 0, none⟩ = some (.slice AS S.length capS) := (h.next hb1).u0
 have HB1 := Lib.hid hb1
 have hpr := upgrade1_says (w := w1) (lb := w.heap.size + 1) l0 (by omega) hM1 f0 f2 (by omega)
 have hLe : zz w1 Sa sl L := hE.s.below (hf.next hb1).below
 have hnS1 : NEsAt w1 AS S.length S := hnS.below hb1
 have HNS1 := Lib.hid hnS1
 have HLE := Lib.hid hLe
 have KI := Lib.hid (show ∀ W, Below w1.heap.size w1 W -> Calls Tryd.prog 42 #[.slice Sa sl sc, .func (.func 70) #[] #[.pointer (some ⟨w.heap.size + 1, 0, none⟩)]] W (fun e w' => e = .returned (.int .i64 iI) /\ Below W.heap.size W w') from fun W hW => by
  rw [<- hiI]
  exact indexUg_any Sa sl sc (L.map Shp.ne) W hE.cap hE.le (hLe.nes.below hW) (fun w' x hb => hpr w' x (hW.trans (hb.mono hW.size))))
 have KU := Lib.hid (show ∀ W, Below w1.heap.size w1 W -> Calls Tryd.prog 42 #[.slice AS S.length capS, .func (.func 70) #[] #[.pointer (some ⟨w.heap.size + 1, 0, none⟩)]] W (fun e w' => e = .returned (.int .i64 kI) /\ Below W.heap.size W w') from fun W hW => by
  rw [<- hkI]
  exact indexUg_any AS S.length capS S W hS2 hS1 (hnS1.below hW) (fun w' x hb => hpr w' x (hW.trans (hb.mono hW.size))))
 have hne1 : U ≠ w.heap.size := by omega
 have hUw1 : U < w1.heap.size := by omega
 have hpw1 : p < w1.heap.size := by omega
 have hsw1 : w.heap.size < w1.heap.size := by omega
 have hsw2 : w.heap.size + 1 < w1.heap.size := by omega
 have HL0 := Lib.hid l0
 have HF2 := Lib.hid f2
 clear h hf hE hS hgd hds hd hi ht hM hr hK hnS hnP hiI hkI hneL hneS hneP hpr hLe hnS1 hb1
 go_enter Tryd.func47, Tryd.ntmps47
 go_upto_region 2 with fail
 rw [<- hw1]
 have HW1 := Lib.hid hw1
 clear hw1
 go_region_held3 (fun w' => w'.cell? ⟨w.heap.size, 1, none⟩ = some (.slice Sa sl sc) /\ w'.cell? ⟨U, 0, none⟩ = some (.slice AS S.length capS)) (go_keep)
  (first
    | (go_at_call 42; (with_reducible refine (KI.out _ (by (repeat' (first | with_reducible exact Below.refl _ _ | with_reducible apply Below.drew | with_reducible apply below_drewN)))).mono ?_); rintro e w2 ⟨rfl, hb2⟩; have HB2 := Lib.hid (show Below w1.heap.size w1 w2 from (show Below w1.heap.size w1 _ from (by (repeat' (first | with_reducible exact Below.refl _ _ | with_reducible apply Below.drew | with_reducible apply below_drewN)))).trans (hb2.mono (by first | exact Nat.le_refl _ | (simp; done)))); have m1 : w2.cell? ⟨w.heap.size, 1, none⟩ = some (.slice Sa sl sc) := (HB2.out.cell (p := ⟨w.heap.size, 1, none⟩) hsw1).trans b1; have m0 : w2.cell? ⟨U, 0, none⟩ = some (.slice AS S.length capS) := (HB2.out.cell (p := ⟨U, 0, none⟩) hUw1).trans u0; clear hb2)
    | (go_at_call 42; (with_reducible refine (KU.out _ (by (repeat' (first | with_reducible exact HB2.out | with_reducible apply Below.drew | with_reducible apply below_drewN)))).mono ?_); rintro e w3 ⟨rfl, hb3⟩; have HB3 := Lib.hid (show Below w1.heap.size w1 w3 from (show Below w1.heap.size w1 _ from (by (repeat' (first | with_reducible exact HB2.out | with_reducible apply Below.drew | with_reducible apply below_drewN)))).trans (hb3.mono (by first | exact HB2.out.size | (simpa using HB2.out.size)))); have m1' : w3.cell? ⟨w.heap.size, 1, none⟩ = some (.slice Sa sl sc) := (HB3.out.cell (p := ⟨w.heap.size, 1, none⟩) hsw1).trans b1; have m0' : w3.cell? ⟨U, 0, none⟩ = some (.slice AS S.length capS) := (HB3.out.cell (p := ⟨U, 0, none⟩) hUw1).trans u0; clear hb3))
 have HFX := Lib.hid (HF1.out.next HB3.out)
 by_cases hc : d.k = 3 /\ inL ((L.map Shp.sh).map (·.1)) d.s = true /\ inL (ush.map (·.1)) d.s = true
 ·
  have HCC := Lib.hid hc
  obtain ⟨hk3, hin1, hin2⟩ := hc
  have hK3 : K = 3 := HK.out.symm.trans hk3
  obtain ⟨i, hii, hil⟩ : ∃ i : Nat, idxL ((L.map Shp.sh).map (·.1)) d.s = i /\ i < ((L.map Shp.sh).map (·.1)).length := by
   rcases idxL_range2 ((L.map Shp.sh).map (·.1)) d.s with ⟨_, h⟩ | ⟨h, _⟩
   ·
    exact h
   rw [hin1] at h; cases h
  obtain ⟨k, hki, hkl⟩ : ∃ k : Nat, idxL (ush.map (·.1)) d.s = k /\ k < (ush.map (·.1)).length := by
   rcases idxL_range2 (ush.map (·.1)) d.s with ⟨_, h⟩ | ⟨h, _⟩
   ·
    exact h
   rw [hin2] at h; cases h
  obtain rfl : iI = (i : Int) := by rw [<- HII.out, HNL.out, idxB_and, if_pos hK3, hii]
  obtain rfl : kI = (k : Int) := by rw [<- HKI.out, HNS.out, idxB_and, if_pos hK3, hki]
  have hiL : i < L.length := by simpa using hil
  have hkU : k < ush.length := by simpa using hkl
  have hkS : k < S.length := by have := congrArg List.length HS.out; simp at this; omega
  have hfv : fieldsAt (L.map Shp.sh) d.s = L[i].ss := by rw [fieldsAt_at (k := i) (by simpa using hiL) hii]; simp [Shp.sh]
  have hfu : (fieldsAt ush d.s).length = S[k].n := by
   rw [fieldsAt_at hkU hki]
   have := List.getElem_of_eq HS.out (i := k) (by simpa using hkS)
   simp only [List.getElem_map, Prod.mk.injEq] at this
   exact this.2.symm
  have HFV := Lib.hid hfv
  have HFU := Lib.hid hfu
  have hi0 : (0 : Int) <= (i : Int) := Int.natCast_nonneg _
  have hk0 : (0 : Int) <= (k : Int) := Int.natCast_nonneg _
  have hin : ¬ (i : Int) < 0 := by omega
  have hkn : ¬ (k : Int) < 0 := by omega
  have HU3 := Lib.hid (HU1.out.next HB3.out)
  have u2 : w3.cell? ⟨U, 2, none⟩ = some (.slice AP P.length capP) := HU3.out.u2
  obtain ⟨AP', capP', hvP, _, _, hnP3⟩ := HU3.out.oP.nesUp
  obtain ⟨rfl, rfl⟩ : AP = AP' /\ capP = capP' := by simpa using hvP
  have hKC := containsUp_any AP P.length capP (P.map UpV.ne) w3 hP2 hP1 hnP3 (upgrade2_says (lb := w.heap.size + 1) (p := p) (q := q) (M := M) (c := c) (s := d.s) ((HB3.out.cell (p := ⟨w.heap.size + 1, 0, none⟩) hsw2).trans HL0.out) (Nat.lt_of_lt_of_le hsw2 HB3.out.size) hM1 ((HB3.out.cell (p := ⟨p, q + 2, none⟩) hpw1).trans HF2.out) (Nat.lt_of_lt_of_le hpw1 HB3.out.size))
  have hin0 : (ne (P.map UpV.ne)).any (fun x => x.toList == d.s.toList) = inL ((P.map UpV.pr).map (·.1)) d.s := by rw [HNP.out]; rfl
  rw [hin0] at hKC
  cases htw : inL ((P.map UpV.pr).map (·.1)) d.s
  all_goals
   rw [htw] at hKC
   have KC := Lib.hid hKC
   have HTW := Lib.hid htw
   clear hKC htw hin0 hnP3 hvP hii hki hil hkl hfv hfu hk3 hin1 hin2 hK3
   go_wp2_with fail
   refine KC.out.mono ?_
   rintro e w4 ⟨rfl, hb4⟩
   have HB4 := Lib.hid (HB3.out.trans (hb4.mono HB3.out.size))
   have HF4 := Lib.hid (HFX.out.next hb4)
   have HU4 := Lib.hid (HU3.out.next hb4)
   clear hb4
  ·
   have l4 : w4.cell? ⟨w.heap.size + 1, 0, none⟩ = some (.slice (some ⟨p, q, none⟩) M c) := (HB4.out.cell (p := ⟨w.heap.size + 1, 0, none⟩) hsw2).trans HL0.out
   have u4 : w4.cell? ⟨U, 0, none⟩ = some (.slice AS S.length capS) := HU4.out.u0
   have b4 : w4.cell? ⟨w.heap.size, 1, none⟩ = some (.slice Sa sl sc) := (HB4.out.cell (p := ⟨w.heap.size, 1, none⟩) hsw1).trans b1
   obtain ⟨bS, oS, rfl, hbS, hrS⟩ := (HNS1.out.below HB4.out).at_ (by omega)
   have s4 : w4.cell? ⟨bS, oS + k * 2 + 1, none⟩ = some (.slice S[k].A S[k].n S[k].c) := (hrS k hkS).2
   obtain ⟨bL, oL, rfl, hbL, hrL⟩ := (HLE.out.below HB4.out).at_ (by rw [<- HLE.out.size]; omega)
   have t4 : w4.cell? ⟨bL, oL + i * 2 + 1, none⟩ = some (.slice L[i].A L[i].len L[i].cap) := (hrL i hiL).2
   have hsl : (i : Int) < (sl : Int) := by have := HLE.out.size; omega
   have hkS2 : (k : Int) < (S.length : Int) := by omega
   obtain ⟨nk, hnk⟩ : ∃ nk, S[k].n = nk := ⟨_, rfl⟩
   have HNK := Lib.hid hnk
   rw [hnk] at s4
   have HX4 := Lib.hid ((HLE.out.below HB4.out).each L[i] (List.getElem_mem hiL))
   clear hrS hrL hnk
   by_cases hcnt : M - 1 = nk
   ·
    have hcb : (((M - 1 : Nat) : Int) != (nk : Int)) = false := by rw [hcnt]; simp
    have HR2 := Lib.hid (show r = mapF (fun xs => (d.s, xs)) (allF (formed ⟨[], [], L[i].ss, true⟩ 40 []) es) by rw [<- HR.out, upX_all HCC.out HTW.out (by rw [HFU.out, HNK.out, HML.out, hcnt]; simp), HFV.out])
    clear hcnt
    go_upto_region 7 with fail
    go_quiet (fail)
    go_upto_region 10 with fail
    obtain ⟨WF, hWF⟩ : ∃ WF, WF = (w4.drewN nq).alloc (.cells #[.slice none 0 0, .slice none 0 0, .slice L[i].A L[i].len L[i].cap, .bool true, .int .i64 0] 42) := ⟨_, rfl⟩
    rw [<- hWF]
    have hbF : Below w4.heap.size w4 WF := by rw [hWF]; exact (below_drewN (Below.refl _ _) _).alloc (by simp) _
    have hsF : w4.heap.size + 1 = WF.heap.size := by rw [hWF]; simp
    have hM2 : zx W0 WF (upFm w4.heap.size L[i]) 0 := by rw [hWF]; exact upFm_at HF4.out HX4.out (w4.drewN nq) (by simp) (below_drewN (Below.refl _ _) _)
    have HM2 := Lib.hid hM2
    have HBF := Lib.hid hbF
    have l5 : WF.cell? ⟨w.heap.size + 1, 0, none⟩ = some (.slice (some ⟨p, q, none⟩) M c) := (hbF.cell (p := ⟨w.heap.size + 1, 0, none⟩) (Nat.lt_of_lt_of_le hsw2 HB4.out.size)).trans l4
    have s5 : WF.cell? ⟨p, q + 2, none⟩ = some (.string d.s) := (hbF.cell (p := ⟨p, q + 2, none⟩) (Nat.lt_of_lt_of_le hpw1 HB4.out.size)).trans ((HB4.out.cell (p := ⟨p, q + 2, none⟩) hpw1).trans HF2.out)
    obtain ⟨rx, hrx⟩ : ∃ rx, allF (formed ⟨[], [], L[i].ss, true⟩ 40 []) es = rx := ⟨_, rfl⟩
    rw [hrx] at HR2
    have hb4s := HB4.out.size
    have hpF2 : p < w4.heap.size := Nat.lt_of_lt_of_le hpw1 hb4s
    have hlF2 : w.heap.size + 1 < w4.heap.size := Nat.lt_of_lt_of_le hsw2 hb4s
    have hpneF : p ≠ w4.heap.size := by omega
    have hlneF : w.heap.size + 1 ≠ w4.heap.size := by omega
    have hneWp : WF.heap.size ≠ p := by omega
    have hneWl : WF.heap.size ≠ w.heap.size + 1 := by omega
    have hneWF : WF.heap.size ≠ w4.heap.size := by omega
    have hpWF : p < WF.heap.size := by omega
    have hlWF : w.heap.size + 1 < WF.heap.size := by omega
    have h4WF : w4.heap.size < WF.heap.size := by omega
    have h5WF : (upFm w4.heap.size L[i]).F < WF.heap.size := h4WF
    have KXG := Lib.hid (show ∀ (q2 cap2 : Nat) (W : World), DsAt W0 w m.F (some ⟨p, q2, none⟩) cap2 es -> Below WF.heap.size WF W -> Calls Tryd.prog 68 #[.pointer (some ⟨w4.heap.size, 0, none⟩), .slice (some ⟨p, q2, none⟩) (M - 1) cap2, .slice none 0 0] W (XsLet W0 W (upFm w4.heap.size L[i]) (M - 1) rx) from fun q2 cap2 W hds hW => by
     have hbw : Below w.heap.size w W := (HB1.out.trans (HB4.out.mono HB1.out.size)).trans ((HBF.out.trans (hW.mono HBF.out.size)).mono (by omega))
     have he : ExprSays W0 (upFm w4.heap.size L[i]) 40 (formed (upFm w4.heap.size L[i]).pl 40) := expr_says (fun x hx => absurd hx (by simp [upFm])) 40
     have := exprs_let he (some ⟨p, q2, none⟩) cap2 es ((hds.fresh (F2 := w4.heap.size) (by omega)).below hbw) (fun x hx => HGD.out x (List.mem_cons_of_mem _ hx)) (by rw [HML.out]; omega) none 0 [] (ScAt.nil _ _) (by simp) (r := rx) (Or.inl ⟨HM2.out.next hW, hrx⟩)
     rw [HML.out] at this
     exact this)
    have HWF := Lib.hid hWF
    clear hM2 hrx hWF hbF
    by_cases hc1 : c = 1
    ·
     subst hc1
     obtain rfl : M = 1 := by omega
     have KX := Lib.hid (show ∀ W : World, Below WF.heap.size WF W -> Calls Tryd.prog 68 #[.pointer (some ⟨w4.heap.size, 0, none⟩), .slice (some ⟨p, q, none⟩) 0 0, .slice none 0 0] W (XsLet W0 W (upFm w4.heap.size L[i]) 0 rx) from fun W => KXG.out q 0 W ⟨by rw [HML.out]; omega, by unfold maxLen; omega, fun h0 => by rw [HML.out] at h0; omega⟩)
     go_cut [12] (fun v wx => UpLaid W0 WF (upFm w4.heap.size L[i]) d.s 0 rx v wx)
     case first =>
      go_region_held3 (fun w' => w'.cell? ⟨w.heap.size + 1, 0, none⟩ = some (.slice (some ⟨p, q, none⟩) 1 1) /\ w'.cell? ⟨p, q + 2, none⟩ = some (.string d.s)) (go_keep)
       (first | (go_at_call 68; refine (KX.out _ (by (with_reducible repeat' (first | exact Below.refl _ _ | apply Below.drew | refine Below.alloc ?_ ?_ _)); all_goals (try simp); all_goals (try omega))).mono ?_; rintro e w5 ⟨v5, X5, rfl, hX5, hg5, hO5, hx5⟩; obtain ⟨A5, cp5, h5, _⟩ := hO5.form; rw [hX5] at h5; subst h5; have m0 : w5.cell? ⟨w.heap.size + 1, 0, none⟩ = some (.slice (some ⟨p, q, none⟩) 1 1) := ((gcell hg5).1 _ _ (by first | exact hlWF | (simp; omega)) hlneF).trans (by first | exact l5 | exact (World.cell?_alloc_lt _ _ ⟨w.heap.size + 1, 0, none⟩ hlWF).trans l5); have m1 : w5.cell? ⟨p, q + 2, none⟩ = some (.string d.s) := ((gcell hg5).1 _ _ (by first | exact hpWF | (simp; omega)) hpneF).trans (by first | exact s5 | exact (World.cell?_alloc_lt _ _ ⟨p, q + 2, none⟩ hpWF).trans s5); obtain ⟨g5, g6⟩ := gcell (F := w4.heap.size) hg5; have HG5 := Lib.hid hg5; have HO5 := Lib.hid hO5; have HX5 := Lib.hid hX5; have HXX := Lib.hid hx5; have hsw5 : WF.heap.size <= w5.heap.size := Nat.le_trans (by first | exact Nat.le_refl _ | simp) hg5.size; have hsw5n : w5.heap.size ≠ p := (by omega); have hsw5m : w5.heap.size ≠ w.heap.size + 1 := (by omega); clear hg5 hO5 hX5 hx5))
      all_goals (go_wp2_with fail)
      all_goals go_meet
      all_goals (first | (with_reducible refine upLaid_after ?_ HX5.out HG5.out HO5.out HXX.out) | (with_reducible refine upLaid_before (t := 73) rfl ?_ ?_ h5WF HX5.out HG5.out HO5.out HXX.out ⟨_, HM2.out⟩))
      all_goals exact (by (with_reducible repeat' (first | exact Below.refl _ _ | apply Below.drew | refine Below.alloc ?_ ?_ _)); all_goals (try simp); all_goals (try omega))
     obtain ⟨p12, A5, cp5, X5, rfl, hp, hplt, q0, q1, hX5, hg5, hO5, hx5⟩ := hcut
     have hbc : Below w4.heap.size w4 wc := ⟨hg5.os.trans HBF.out.os, hg5.tape.trans HBF.out.tape, hg5.output.trans HBF.out.output, Nat.le_trans HBF.out.size hg5.size, fun k hk => (hg5.block k (by omega) (fun e => by have := Option.some.inj e; simp only [upFm] at this; omega)).trans (HBF.out.block k hk)⟩
     have HBC := Lib.hid hbc
     have HFC := Lib.hid (HF4.out.next hbc)
     have HUC := Lib.hid (HU4.out.next hbc)
     have HX5 := Lib.hid hX5
     have HO5 := Lib.hid hO5
     have HXX := Lib.hid hx5
     have hsc5 := hg5.size
     have hFw4 : m.F < w4.heap.size := HF4.out.lt
     have hUw4 : U < w4.heap.size := by omega
     have hvP4 : ∀ b, (Value.slice AP P.length capP).ownBlock = some b -> base <= b /\ b < w4.heap.size := fun b hb => HU4.out.oP.row.lt b hb
     have hvD4 : ∀ b, vD.ownBlock = some b -> b < w4.heap.size := fun b hb => (HU4.out.oD.row.lt b hb).2
     have HVP := Lib.hid hvP4
     have HVD := Lib.hid hvD4
     have HGC := Lib.hid (show zy base U m.F w wc from zy.below (HB1.out.trans ((HB4.out.trans (hbc.mono HB4.out.size)).mono HB1.out.size)) H.out.bs)
     clear hg5 hbc hX5 hO5 hvP4 hvD4
     cases rx with
     | ok xs =>
      have z4 : wc.cell? ⟨w4.heap.size, 4, none⟩ = some (.int .i64 0) := (hx5.2.2.cell (p := ⟨w4.heap.size, 4, none⟩) h4WF).trans HM2.out.c4
      obtain ⟨hxO, hxm, hxb⟩ := hx5
      have HXO := Lib.hid hxO
      have HXM := Lib.hid hxm
      obtain rfl : r = .ok (d.s, xs) := HR2.out
      clear hxO hxm hxb
      go_upto_region 13 with fail
      have u2c : wc.cell? ⟨U, 2, none⟩ = some (.slice AP P.length capP) := HUC.out.u2
      have ufc : wc.frozen? ⟨U, 2, none⟩ = false := HUC.out.fu 2
      have hn0 : wc.heap.size ≠ U := by omega
      have hn1 : wc.heap.size ≠ p12 := by omega
      have hn2 : U < wc.heap.size := by omega
      have hn3 : p12 < wc.heap.size := by omega
      have hbsW : base <= wc.heap.size := HUC.out.bs
      have HUW := Lib.hid (HUC.out.weak (q := (∃ ys : List Ex, (Fd.ok xs : Fd (List Ex)) = .ok ys)) (fun _ => trivial))
      go_region_law
       (first | (refine step_up (W0 := W0) (pp := (∃ ys : List Ex, (Fd.ok xs : Fd (List Ex)) = .ok ys)) (by rfl) (.tmp 90) (.tmp 92) (by rfl) (HUW.out.next ((Below.refl _ _).drew)).oP ⟨d.s, A5, 0, cp5, X5.map (·.t), WF.heap.size, wc.heap.size⟩ _ rfl (fun _ => ⟨by have := HX5.out; show 0 = (X5.map (·.t)).length; simp [this], (by obtain ⟨Az, cz, hz, hA⟩ := HXO.out.argsIn; rw [HX5.out] at hz; cases hz; exact hA.mono (zw ((Below.refl _ _).drew)) (Nat.le_refl _) (Nat.le_refl _) (Nat.le_refl _)), (by simp)⟩) (fun b hb => (by have := H.out.bs; have := hb.2.1; simp only at this; omega)) (fun b hb e => (by have := (HVP.out b e).2; have := hb.2.1; simp only at this; omega)) (by rfl) (by rfl) (by omega) (by simpa using hbsW) ?_; intro v9 w9 h5 h6 h7; obtain ⟨A9, c9, h8, _⟩ := h5.form; simp only [List.length_append, List.length_cons, List.length_nil, Nat.zero_add] at h8; subst h8; have HCS := Lib.hid (UnAt.up_ (HUW.out.next ((Below.refl _ _).drew)) h5 h6 h7 (fun b hb e => (by have := HVD.out b e; have := hb.2.1; simp only at this; omega))); have hbU := h6.block U (by simp; omega) (fun e => (by have := (HVP.out U e.symm).1; have := H.out.ltU; omega)); have y0 : w9.cell? ⟨U, 2, none⟩ = some (.slice AP P.length capP) := (World.cell?_of_block (a := ⟨U, 2, none⟩) hbU).trans (by simpa using u2c); have yf : w9.frozen? ⟨U, 2, none⟩ = false := (World.frozen?_of_block (a := ⟨U, 2, none⟩) hbU).trans (by simpa using ufc); have hbp := h6.block p12 (by simp; omega) (fun e => (by have := (HVP.out _ e.symm).2; omega)); have y1 : w9.cell? ⟨p12, 0, none⟩ = some (.string d.s) := (World.cell?_of_block (a := ⟨p12, 0, none⟩) hbp).trans (by simpa using q0); have y2 : w9.cell? ⟨p12, 1, none⟩ = some (.slice A5 0 cp5) := (World.cell?_of_block (a := ⟨p12, 1, none⟩) hbp).trans (by simpa using q1); clear h5 h6 h7 hbU hbp))
      all_goals (go_wp2_with fail)
      all_goals exact bodyPost_end (v := .tuple #[]) (by simp [results, Tryd.results47, go_sem]) rfl ⟨rfl, (HGC.out.trans (zy.below ((Below.refl _ _).drew) hbsW)).trans HCS.out.2.wide, ((HFC.out.next ((Below.refl _ _).drew)).carry H.out.off H.out.geU (Nat.le_trans H.out.geU (Nat.le_of_lt H.out.ltU)) H.out.ltF H.out.neU HCS.out.2 rfl), _, _, HCS.out.1.weak (fun _ => ⟨_, rfl⟩), (by rw [List.map_append, <- HXM.out]; rfl)⟩
     | err cc =>
      obtain ⟨hc1', hF2⟩ := hx5
      have z4 : wc.cell? ⟨w4.heap.size, 4, none⟩ = some (.int .i64 cc) := hF2.c4
      obtain rfl : r = .err cc := HR2.out
      have hccb : (cc != 0) = true := by simp; omega
      have HC1 := Lib.hid hc1'
      clear hF2 hc1'
      go_wp2_with fail
      refine (ze HFC.out cc).mono ?_
      rintro e w7 ⟨rfl, hF7, hg7⟩
      have HF7 := Lib.hid hF7
      have HU7 := Lib.hid (HUC.out.grownF hg7)
      have hpF7 : p12 ≠ m.F := by omega
      have q0' : w7.cell? ⟨p12, 0, none⟩ = some (.string d.s) := ((gcell hg7).1 _ _ hplt hpF7).trans q0
      have q1' : w7.cell? ⟨p12, 1, none⟩ = some (.slice A5 0 cp5) := ((gcell hg7).1 _ _ hplt hpF7).trans q1
      have HG7 := Lib.hid hg7
      have hs7 := hg7.size
      clear hF7 hg7
      go_upto_region 13 with fail
      have u2c : w7.cell? ⟨U, 2, none⟩ = some (.slice AP P.length capP) := HU7.out.u2
      have ufc : w7.frozen? ⟨U, 2, none⟩ = false := HU7.out.fu 2
      have hn0 : w7.heap.size ≠ U := by omega
      have hn1 : w7.heap.size ≠ p12 := by omega
      have hn2 : U < w7.heap.size := by omega
      have hn3 : p12 < w7.heap.size := by omega
      have hbsW : base <= w7.heap.size := HU7.out.bs
      have HUW := Lib.hid (HU7.out.weak (q := False) (fun _ => trivial))
      go_region_law
       (first | (refine step_up (W0 := W0) (pp := False) (by rfl) (.tmp 90) (.tmp 92) (by rfl) (HUW.out.next ((Below.refl _ _).drew)).oP ⟨d.s, A5, 0, cp5, X5.map (·.t), WF.heap.size, wc.heap.size⟩ _ rfl (fun hp => hp.elim) (fun b hb => (by have := H.out.bs; have := hb.2.1; simp only at this; omega)) (fun b hb e => (by have := (HVP.out b e).2; have := hb.2.1; simp only at this; omega)) (by rfl) (by rfl) (by omega) (by simpa using hbsW) ?_; intro v9 w9 h5 h6 h7; obtain ⟨A9, c9, h8, _⟩ := h5.form; simp only [List.length_append, List.length_cons, List.length_nil, Nat.zero_add] at h8; subst h8; have HCS := Lib.hid (UnAt.up_ (HUW.out.next ((Below.refl _ _).drew)) h5 h6 h7 (fun b hb e => (by have := HVD.out b e; have := hb.2.1; simp only at this; omega))); have hbU := h6.block U (by simp; omega) (fun e => (by have := (HVP.out U e.symm).1; have := H.out.ltU; omega)); have y0 : w9.cell? ⟨U, 2, none⟩ = some (.slice AP P.length capP) := (World.cell?_of_block (a := ⟨U, 2, none⟩) hbU).trans (by simpa using u2c); have yf : w9.frozen? ⟨U, 2, none⟩ = false := (World.frozen?_of_block (a := ⟨U, 2, none⟩) hbU).trans (by simpa using ufc); have hbp := h6.block p12 (by simp; omega) (fun e => (by have := (HVP.out _ e.symm).2; omega)); have y1 : w9.cell? ⟨p12, 0, none⟩ = some (.string d.s) := (World.cell?_of_block (a := ⟨p12, 0, none⟩) hbp).trans (by simpa using q0'); have y2 : w9.cell? ⟨p12, 1, none⟩ = some (.slice A5 0 cp5) := (World.cell?_of_block (a := ⟨p12, 1, none⟩) hbp).trans (by simpa using q1'); clear h5 h6 h7 hbU hbp))
      all_goals (go_wp2_with fail)
      all_goals exact bodyPost_end (v := .tuple #[]) (by simp [results, Tryd.results47, go_sem]) rfl ⟨rfl, ((HGC.out.trans (zy.ofF HG7.out (Nat.le_trans HUC.out.bs (Nat.le_refl _)))).trans (zy.below ((Below.refl _ _).drew) hbsW)).trans HCS.out.2.wide, ((HF7.out.next ((Below.refl _ _).drew)).carry H.out.off H.out.geU (Nat.le_trans H.out.geU (Nat.le_of_lt H.out.ltU)) H.out.ltF H.out.neU HCS.out.2 rfl), HC1.out⟩
    have KX := Lib.hid (fun W => KXG.out (q + 4) (c - 1) W HT.out)
    go_cut [12] (fun v wx => UpLaid W0 WF (upFm w4.heap.size L[i]) d.s (M - 1) rx v wx)
    case first =>
     go_region_held3 (fun w' => w'.cell? ⟨w.heap.size + 1, 0, none⟩ = some (.slice (some ⟨p, q, none⟩) M c) /\ w'.cell? ⟨p, q + 2, none⟩ = some (.string d.s)) (go_keep)
      (first | (go_at_call 68; refine (KX.out _ (by (with_reducible repeat' (first | exact Below.refl _ _ | apply Below.drew | refine Below.alloc ?_ ?_ _)); all_goals (try simp); all_goals (try omega))).mono ?_; rintro e w5 ⟨v5, X5, rfl, hX5, hg5, hO5, hx5⟩; obtain ⟨A5, cp5, h5, _⟩ := hO5.form; rw [hX5] at h5; subst h5; have m0 : w5.cell? ⟨w.heap.size + 1, 0, none⟩ = some (.slice (some ⟨p, q, none⟩) M c) := ((gcell hg5).1 _ _ (by first | exact hlWF | (simp; omega)) hlneF).trans (by first | exact l5 | exact (World.cell?_alloc_lt _ _ ⟨w.heap.size + 1, 0, none⟩ hlWF).trans l5); have m1 : w5.cell? ⟨p, q + 2, none⟩ = some (.string d.s) := ((gcell hg5).1 _ _ (by first | exact hpWF | (simp; omega)) hpneF).trans (by first | exact s5 | exact (World.cell?_alloc_lt _ _ ⟨p, q + 2, none⟩ hpWF).trans s5); obtain ⟨g5, g6⟩ := gcell (F := w4.heap.size) hg5; have HG5 := Lib.hid hg5; have HO5 := Lib.hid hO5; have HX5 := Lib.hid hX5; have HXX := Lib.hid hx5; have hsw5 : WF.heap.size <= w5.heap.size := Nat.le_trans (by first | exact Nat.le_refl _ | simp) hg5.size; have hsw5n : w5.heap.size ≠ p := (by omega); have hsw5m : w5.heap.size ≠ w.heap.size + 1 := (by omega); clear hg5 hO5 hX5 hx5))
     all_goals (go_wp2_with fail)
     all_goals go_meet
     all_goals (first | (with_reducible refine upLaid_after ?_ HX5.out HG5.out HO5.out HXX.out) | (with_reducible refine upLaid_before (t := 73) rfl ?_ ?_ h5WF HX5.out HG5.out HO5.out HXX.out ⟨_, HM2.out⟩))
     all_goals exact (by (with_reducible repeat' (first | exact Below.refl _ _ | apply Below.drew | refine Below.alloc ?_ ?_ _)); all_goals (try simp); all_goals (try omega))
    obtain ⟨p12, A5, cp5, X5, rfl, hp, hplt, q0, q1, hX5, hg5, hO5, hx5⟩ := hcut
    have hbc : Below w4.heap.size w4 wc := ⟨hg5.os.trans HBF.out.os, hg5.tape.trans HBF.out.tape, hg5.output.trans HBF.out.output, Nat.le_trans HBF.out.size hg5.size, fun k hk => (hg5.block k (by omega) (fun e => by have := Option.some.inj e; simp only [upFm] at this; omega)).trans (HBF.out.block k hk)⟩
    have HBC := Lib.hid hbc
    have HFC := Lib.hid (HF4.out.next hbc)
    have HUC := Lib.hid (HU4.out.next hbc)
    have HX5 := Lib.hid hX5
    have HO5 := Lib.hid hO5
    have HXX := Lib.hid hx5
    have hsc5 := hg5.size
    have hFw4 : m.F < w4.heap.size := HF4.out.lt
    have hUw4 : U < w4.heap.size := by omega
    have hvP4 : ∀ b, (Value.slice AP P.length capP).ownBlock = some b -> base <= b /\ b < w4.heap.size := fun b hb => HU4.out.oP.row.lt b hb
    have hvD4 : ∀ b, vD.ownBlock = some b -> b < w4.heap.size := fun b hb => (HU4.out.oD.row.lt b hb).2
    have HVP := Lib.hid hvP4
    have HVD := Lib.hid hvD4
    have HGC := Lib.hid (show zy base U m.F w wc from zy.below (HB1.out.trans ((HB4.out.trans (hbc.mono HB4.out.size)).mono HB1.out.size)) H.out.bs)
    clear hg5 hbc hX5 hO5 hvP4 hvD4
    cases rx with
    | ok xs =>
     have z4 : wc.cell? ⟨w4.heap.size, 4, none⟩ = some (.int .i64 0) := (hx5.2.2.cell (p := ⟨w4.heap.size, 4, none⟩) h4WF).trans HM2.out.c4
     obtain ⟨hxO, hxm, hxb⟩ := hx5
     have HXO := Lib.hid hxO
     have HXM := Lib.hid hxm
     obtain rfl : r = .ok (d.s, xs) := HR2.out
     clear hxO hxm hxb
     go_upto_region 13 with fail
     have u2c : wc.cell? ⟨U, 2, none⟩ = some (.slice AP P.length capP) := HUC.out.u2
     have ufc : wc.frozen? ⟨U, 2, none⟩ = false := HUC.out.fu 2
     have hn0 : wc.heap.size ≠ U := by omega
     have hn1 : wc.heap.size ≠ p12 := by omega
     have hn2 : U < wc.heap.size := by omega
     have hn3 : p12 < wc.heap.size := by omega
     have hbsW : base <= wc.heap.size := HUC.out.bs
     have HUW := Lib.hid (HUC.out.weak (q := (∃ ys : List Ex, (Fd.ok xs : Fd (List Ex)) = .ok ys)) (fun _ => trivial))
     go_region_law
      (first | (refine step_up (W0 := W0) (pp := (∃ ys : List Ex, (Fd.ok xs : Fd (List Ex)) = .ok ys)) (by rfl) (.tmp 90) (.tmp 92) (by rfl) (HUW.out.next ((Below.refl _ _).drew)).oP ⟨d.s, A5, M - 1, cp5, X5.map (·.t), WF.heap.size, wc.heap.size⟩ _ rfl (fun _ => ⟨by have := HX5.out; show M - 1 = (X5.map (·.t)).length; simp [this], (by obtain ⟨Az, cz, hz, hA⟩ := HXO.out.argsIn; rw [HX5.out] at hz; cases hz; exact hA.mono (zw ((Below.refl _ _).drew)) (Nat.le_refl _) (Nat.le_refl _) (Nat.le_refl _)), (by simp)⟩) (fun b hb => (by have := H.out.bs; have := hb.2.1; simp only at this; omega)) (fun b hb e => (by have := (HVP.out b e).2; have := hb.2.1; simp only at this; omega)) (by rfl) (by rfl) (by omega) (by simpa using hbsW) ?_; intro v9 w9 h5 h6 h7; obtain ⟨A9, c9, h8, _⟩ := h5.form; simp only [List.length_append, List.length_cons, List.length_nil, Nat.zero_add] at h8; subst h8; have HCS := Lib.hid (UnAt.up_ (HUW.out.next ((Below.refl _ _).drew)) h5 h6 h7 (fun b hb e => (by have := HVD.out b e; have := hb.2.1; simp only at this; omega))); have hbU := h6.block U (by simp; omega) (fun e => (by have := (HVP.out U e.symm).1; have := H.out.ltU; omega)); have y0 : w9.cell? ⟨U, 2, none⟩ = some (.slice AP P.length capP) := (World.cell?_of_block (a := ⟨U, 2, none⟩) hbU).trans (by simpa using u2c); have yf : w9.frozen? ⟨U, 2, none⟩ = false := (World.frozen?_of_block (a := ⟨U, 2, none⟩) hbU).trans (by simpa using ufc); have hbp := h6.block p12 (by simp; omega) (fun e => (by have := (HVP.out _ e.symm).2; omega)); have y1 : w9.cell? ⟨p12, 0, none⟩ = some (.string d.s) := (World.cell?_of_block (a := ⟨p12, 0, none⟩) hbp).trans (by simpa using q0); have y2 : w9.cell? ⟨p12, 1, none⟩ = some (.slice A5 (M - 1) cp5) := (World.cell?_of_block (a := ⟨p12, 1, none⟩) hbp).trans (by simpa using q1); clear h5 h6 h7 hbU hbp))
     all_goals (go_wp2_with fail)
     all_goals exact bodyPost_end (v := .tuple #[]) (by simp [results, Tryd.results47, go_sem]) rfl ⟨rfl, (HGC.out.trans (zy.below ((Below.refl _ _).drew) hbsW)).trans HCS.out.2.wide, ((HFC.out.next ((Below.refl _ _).drew)).carry H.out.off H.out.geU (Nat.le_trans H.out.geU (Nat.le_of_lt H.out.ltU)) H.out.ltF H.out.neU HCS.out.2 rfl), _, _, HCS.out.1.weak (fun _ => ⟨_, rfl⟩), (by rw [List.map_append, <- HXM.out]; rfl)⟩
    | err cc =>
     obtain ⟨hc1', hF2⟩ := hx5
     have z4 : wc.cell? ⟨w4.heap.size, 4, none⟩ = some (.int .i64 cc) := hF2.c4
     obtain rfl : r = .err cc := HR2.out
     have hccb : (cc != 0) = true := by simp; omega
     have HC1 := Lib.hid hc1'
     clear hF2 hc1'
     go_wp2_with fail
     refine (ze HFC.out cc).mono ?_
     rintro e w7 ⟨rfl, hF7, hg7⟩
     have HF7 := Lib.hid hF7
     have HU7 := Lib.hid (HUC.out.grownF hg7)
     have hpF7 : p12 ≠ m.F := by omega
     have q0' : w7.cell? ⟨p12, 0, none⟩ = some (.string d.s) := ((gcell hg7).1 _ _ hplt hpF7).trans q0
     have q1' : w7.cell? ⟨p12, 1, none⟩ = some (.slice A5 (M - 1) cp5) := ((gcell hg7).1 _ _ hplt hpF7).trans q1
     have HG7 := Lib.hid hg7
     have hs7 := hg7.size
     clear hF7 hg7
     go_upto_region 13 with fail
     have u2c : w7.cell? ⟨U, 2, none⟩ = some (.slice AP P.length capP) := HU7.out.u2
     have ufc : w7.frozen? ⟨U, 2, none⟩ = false := HU7.out.fu 2
     have hn0 : w7.heap.size ≠ U := by omega
     have hn1 : w7.heap.size ≠ p12 := by omega
     have hn2 : U < w7.heap.size := by omega
     have hn3 : p12 < w7.heap.size := by omega
     have hbsW : base <= w7.heap.size := HU7.out.bs
     have HUW := Lib.hid (HU7.out.weak (q := False) (fun _ => trivial))
     go_region_law
      (first | (refine step_up (W0 := W0) (pp := False) (by rfl) (.tmp 90) (.tmp 92) (by rfl) (HUW.out.next ((Below.refl _ _).drew)).oP ⟨d.s, A5, M - 1, cp5, X5.map (·.t), WF.heap.size, wc.heap.size⟩ _ rfl (fun hp => hp.elim) (fun b hb => (by have := H.out.bs; have := hb.2.1; simp only at this; omega)) (fun b hb e => (by have := (HVP.out b e).2; have := hb.2.1; simp only at this; omega)) (by rfl) (by rfl) (by omega) (by simpa using hbsW) ?_; intro v9 w9 h5 h6 h7; obtain ⟨A9, c9, h8, _⟩ := h5.form; simp only [List.length_append, List.length_cons, List.length_nil, Nat.zero_add] at h8; subst h8; have HCS := Lib.hid (UnAt.up_ (HUW.out.next ((Below.refl _ _).drew)) h5 h6 h7 (fun b hb e => (by have := HVD.out b e; have := hb.2.1; simp only at this; omega))); have hbU := h6.block U (by simp; omega) (fun e => (by have := (HVP.out U e.symm).1; have := H.out.ltU; omega)); have y0 : w9.cell? ⟨U, 2, none⟩ = some (.slice AP P.length capP) := (World.cell?_of_block (a := ⟨U, 2, none⟩) hbU).trans (by simpa using u2c); have yf : w9.frozen? ⟨U, 2, none⟩ = false := (World.frozen?_of_block (a := ⟨U, 2, none⟩) hbU).trans (by simpa using ufc); have hbp := h6.block p12 (by simp; omega) (fun e => (by have := (HVP.out _ e.symm).2; omega)); have y1 : w9.cell? ⟨p12, 0, none⟩ = some (.string d.s) := (World.cell?_of_block (a := ⟨p12, 0, none⟩) hbp).trans (by simpa using q0'); have y2 : w9.cell? ⟨p12, 1, none⟩ = some (.slice A5 (M - 1) cp5) := (World.cell?_of_block (a := ⟨p12, 1, none⟩) hbp).trans (by simpa using q1'); clear h5 h6 h7 hbU hbp))
     all_goals (go_wp2_with fail)
     all_goals exact bodyPost_end (v := .tuple #[]) (by simp [results, Tryd.results47, go_sem]) rfl ⟨rfl, ((HGC.out.trans (zy.ofF HG7.out (Nat.le_trans HUC.out.bs (Nat.le_refl _)))).trans (zy.below ((Below.refl _ _).drew) hbsW)).trans HCS.out.2.wide, ((HF7.out.next ((Below.refl _ _).drew)).carry H.out.off H.out.geU (Nat.le_trans H.out.geU (Nat.le_of_lt H.out.ltU)) H.out.ltF H.out.neU HCS.out.2 rfl), HC1.out⟩
   obtain rfl : r = .err 10 := by rw [<- HR.out]; exact upX_count HCC.out HTW.out (by rw [HFU.out, HNK.out, HML.out]; exact hcnt)
   have hcb : (((M - 1 : Nat) : Int) != (nk : Int)) = true := by simp; omega
   clear hcnt
   go_upto_region 7 with fail
   go_quiet (fail)
   go_wp2_with fail
   refine (ze (HF4.out.next (below_drewN (Below.refl _ _) _)) 10).mono ?_
   rintro e w4 ⟨rfl, hF4, hg4⟩
   have HF4 := Lib.hid hF4
   have HG4 := Lib.hid hg4
   clear hF4 hg4
   go_wp2_with fail
   exact bodyPost_ret (v := .tuple #[]) (by simp [results, Tryd.results47, go_sem]) rfl ⟨rfl, (zy.below (HB1.out.trans ((below_drewN HB4.out _).mono HB1.out.size)) H.out.bs).trans (zy.ofF HG4.out (Nat.le_trans H.out.bs (Nat.le_trans HB1.out.size (below_drewN HB4.out _).size))), HF4.out, by decide⟩
  obtain rfl : r = .err 7 := by rw [<- HR.out]; exact upX_twice HCC.out HTW.out
  go_wp2_with fail
  refine (ze HF4.out 7).mono ?_
  rintro e w4 ⟨rfl, hF4, hg4⟩
  have HF4 := Lib.hid hF4
  have HG4 := Lib.hid hg4
  clear hF4 hg4
  go_wp2_with fail
  exact bodyPost_ret (v := .tuple #[]) (by simp [results, Tryd.results47, go_sem]) rfl ⟨rfl, (zy.below (HB1.out.trans (HB4.out.mono HB1.out.size)) H.out.bs).trans (zy.ofF HG4.out (Nat.le_trans H.out.bs (Nat.le_trans HB1.out.size HB4.out.size))), HF4.out, by decide⟩
 have hbad : iI < 0 \/ (¬ iI < 0 /\ kI < 0) := by
  rw [<- HII.out, <- HKI.out, HNL.out, HNS.out, idxB_and, idxB_and]
  by_cases h3 : K = 3
  ·
   rw [if_pos h3, if_pos h3]
   rcases idxL_range2 ((L.map Shp.sh).map (·.1)) d.s with ⟨h1, k, hk, _⟩ | ⟨_, h1⟩
   ·
    rcases idxL_range2 (ush.map (·.1)) d.s with ⟨h2, _⟩ | ⟨_, h2⟩
    ·
     exact absurd ⟨HK.out.trans h3, h1, h2⟩ hc
    right; rw [hk, h2]; omega
   left; rw [h1]; decide
  rw [if_neg h3]; left; decide
 obtain rfl : r = .err 6 := by rw [<- HR.out]; exact upX_none hc
 clear hc
 rcases hbad with hb | ⟨ha, hb⟩
 all_goals
  go_wp2_with fail
  refine (ze HFX.out 6).mono ?_
  rintro e w4 ⟨rfl, hF4, hg4⟩
  have HF4 := Lib.hid hF4
  have HG4 := Lib.hid hg4
  clear hF4 hg4
  go_wp2_with fail
  exact bodyPost_ret (v := .tuple #[]) (by simp [results, Tryd.results47, go_sem]) rfl ⟨rfl, (zy.below (HB1.out.trans (HB3.out.mono HB1.out.size)) H.out.bs).trans (zy.ofF HG4.out (Nat.le_trans H.out.bs (Nat.le_trans HB1.out.size HB3.out.size))), HF4.out, by decide⟩
end Go.Proofs.YtjmeodadkjcmmaaDoor
