import Derived.Test.YtfhbdlobhjegcaaGreatDoorQl
import Derived.Test.YtfhbdlobhjegcaaGreatDoorPm
namespace Go.Proofs.YtfhbdlobhjegcaaGreatDoor
open Go.RowKit Go.ChangeShapes Go.WideShapes Go.Deep Go.ChangeAt
set_option linter.unusedVariables false
set_option maxRecDepth 20000
theorem prim_len {h h' : Hp} {s : ByteArray} {l : List Wd} {w : Wd} (hp : primW h s l = .ok (w, h')) : h'.length <= h.length + 1 := by
 unfold primW at hp
 split at hp
 ·
  split at hp
  ·
   split at hp
   ·
    cases hp; omega
   cases hp
  split at hp
  ·
   split at hp
   ·
    cases hp; omega
   cases hp
  split at hp
  ·
   cases hp; omega
  split at hp
  ·
   cases hp; omega
  split at hp
  ·
   cases hp; omega
  cases hp
 ·
  split at hp
  ·
   cases hp; simp
  split at hp
  ·
   cases hp; omega
  split at hp
  ·
   split at hp
   ·
    cases hp; omega
   cases hp
  cases hp
 cases hp
structure Inv (c : EC) (r : End) (wr : World) (pc : Nat) (st : List Wd) (hp : Hp) (fu : Int) (A : Option Addr) (len cap : Nat) (v : Value) : Prop where
 eng : Eng c wr pc st hp fu A len cap v
 path : Path (codeOf c.x) c.L ⟨pc, st, hp⟩ r
 ok : SOk ⟨pc, st, hp⟩
 hl : hp.length <= pc
 sl : st.length <= pc
 f1 : 20000 <= fu + pc
 f2 : fu <= 20000
section
variable {c : EC} {r : End} {wr w' : World} {pc : Nat} {st : List Wd} {hp : Hp} {fu fu' : Int} {A A' : Option Addr} {len cap len' cap' : Nat} {v v' : Value}
theorem lt_of_get {C : List IV} {pc : Nat} {x : IV} (h : C[pc]? = some x) : pc < C.length := by
 obtain ⟨hi, _⟩ := List.getElem?_eq_some_iff.1 h
 exact hi
theorem step_sizes {C : List IV} {L : List Wd} {s s' : SE} (h : Step C L s (.inl s')) : s.pc < C.length /\ s.pc < s'.pc /\ s'.hp.length <= s.hp.length + 1 /\ s'.st.length <= s.st.length + 1 := by
 cases h with
 | tick h => exact ⟨lt_of_get h, Nat.lt_succ_self _, Nat.le_succ _, Nat.le_succ _⟩
 | const h => exact ⟨lt_of_get h, Nat.lt_succ_self _, Nat.le_succ _, by simp⟩
 | local_ h hw => exact ⟨lt_of_get h, Nat.lt_succ_self _, Nat.le_succ _, by simp⟩
 | jump h hn => exact ⟨lt_of_get h, hn, Nat.le_succ _, Nat.le_succ _⟩
 | else_ h hn =>
  refine ⟨lt_of_get h, ?_, Nat.le_succ _, by simp; omega⟩
  show _ < (if _ then _ else _)
  split
  ·
   exact hn
  exact Nat.lt_succ_self _
 | prim h hl hn hr => exact ⟨lt_of_get h, Nat.lt_succ_self _, prim_len hr, by simp⟩
theorem Inv.next (h : Inv c r wr pc st hp fu A len cap v) (hC : ∀ w, constI w ∈ codeOf c.x -> WOk w) (hL : ∀ w ∈ c.L, WOk w) {s' : SE} (hst : Step (codeOf c.x) c.L ⟨pc, st, hp⟩ (.inl s')) (k : Path (codeOf c.x) c.L s' r) (E : Eng c w' s'.pc s'.st s'.hp fu' A' len' cap' v') (hf : fu' = fu \/ fu' = fu - 1) :
  Inv c r w' s'.pc s'.st s'.hp fu' A' len' cap' v' := by
 obtain ⟨h0, h1, h2, h3⟩ := step_sizes hst
 have h4 := h.hl
 have h5 := h.sl
 have h6 := h.f1
 have h7 := h.f2
 simp only at h0 h1 h2 h3
 obtain ⟨pc', st', hp'⟩ := s'
 simp only at h1 h2 h3 E
 exact ⟨E, k, ((step_ok hC hL h.ok).1 _ hst).1, by show hp'.length <= pc'; omega, by show st'.length <= pc'; omega, by show 20000 <= fu' + (pc' : Int); omega, by omega⟩
structure GEnd (c : EC) (W w : World) (hp : Hp) (A : Option Addr) (len cap : Nat) : Prop where
 tur : Tur W w c.G c.T
 g0 : w.cell? ⟨c.G, 0, none⟩ = some (.slice c.F 2 c.fc)
 g1 : w.cell? ⟨c.G, 1, none⟩ = some (.slice none 0 0)
 g2 : w.cell? ⟨c.G, 2, none⟩ = some (.slice none 0 0)
 g3 : w.cell? ⟨c.G, 3, none⟩ = some (.slice A len cap)
 g4 : w.cell? ⟨c.G, 4, none⟩ = some (.int .i64 60000)
 heap : HpAt w A len cap hp
theorem Tur.from {W w0 w : World} {G T : Nat} (hb : Below W.heap.size W w0) (h : Tur w0 w G T) : Tur W w G T :=
 ⟨h.os.trans hb.os, h.tape.trans hb.tape, h.output.trans hb.output, Nat.le_trans hb.size h.size, fun b h1 h2 h3 => (h.block b (Nat.lt_of_lt_of_le h1 hb.size) h2 h3).trans (hb.block b h1)⟩
def GoPost (c : EC) (W : World) (r : End) (e : Ending) (w' : World) : Prop := match r with
 | .ok (x, hp') => e = .returned (.tuple #[x.agg, .int .i64 0]) /\ WIn hp' x /\ ∃ A len cap, GEnd c W w' hp' A len cap
 | .error er => e = .returned (.tuple #[noW.agg, .int .i64 er]) /\ Tur W w' c.G c.T
set_option maxHeartbeats 8000000 in
theorem go_any (k : c.Ok) (W : World) (hw0 : W.alloc (.cells #[.int .i64 0, .int .i64 0, .string ⟨#[]⟩] 49) = c.w0) {A0 : Option Addr} {len0 cap0 : Nat} (h : Eng c c.w0 0 [] [] 20000 A0 len0 cap0 (.slice none 0 0)) (hx : PxW c.o c.x) (hC : (codeOf c.x).length <= 6000) (hL : ∀ x ∈ c.L, WOk x) (hpath : Path (codeOf c.x) c.L ⟨0, [], []⟩ r) (hRG : W.heap.size ≠ c.G) (hRT : W.heap.size ≠ c.T)
  {bF pF bC oC nC cC : Nat} (hF : c.F = some ⟨bF, pF, none⟩) (hcode : ∀ w, Tur c.w0 w c.G c.T -> bF < w.heap.size /\ w.cell? ⟨bF, pF + 3, none⟩ = some (.slice (some ⟨bC, oC, none⟩) nC cC) /\ InsAt w (some ⟨bC, oC, none⟩) nC cC (codeOf c.x)) :
  Calls Tryz.prog 23 #[.pointer (some ⟨c.G, 0, none⟩), .int .i64 0] W (GoPost c W r) := by
 have hwords := codeX_words c.x hx true 0
 have h0 : Inv c r c.w0 0 [] [] 20000 A0 len0 cap0 (.slice none 0 0) := ⟨h, hpath, ⟨by simp, fun p hp => by cases hp⟩, Nat.le_refl _, Nat.le_refl _, by decide, by decide⟩
 obtain ⟨hfc, hfc2, _⟩ := k.fns c.w0 (Tur.refl _ _ _)
 have hfc3 : c.fc <= 9223372036854775807 := by unfold maxLen at hfc2; omega
 have hfc0 : (0 : Int) < (c.fc : Int) := by omega
 obtain ⟨_, _, i1⟩ := hcode c.w0 (Tur.refl _ _ _)
 have hnC := i1.size
 have hcC := i1.cap_
 have hlC := i1.le
 have hcC3 : cC <= 9223372036854775807 := by unfold maxLen at hcC; omega
 have HI0 := Lib.hid h0
 have HCODE := Lib.hid hcode
 have HWD := Lib.hid hwords
 have HLW := Lib.hid hL
 have HFE := Lib.hid hF
 have HW0 := Lib.hid hw0
 have r0 : c.w0.cell? ⟨W.heap.size, 0, none⟩ = some (.int .i64 0) := by rw [<- hw0]; exact za _ _ _ 0
 have r1 : c.w0.cell? ⟨W.heap.size, 1, none⟩ = some (.int .i64 0) := by rw [<- hw0]; exact za _ _ _ 1
 have r2 : c.w0.cell? ⟨W.heap.size, 2, none⟩ = some (.string ⟨#[]⟩) := by rw [<- hw0]; exact za _ _ _ 2
 have rf : ∀ j, c.w0.frozen? ⟨W.heap.size, j, none⟩ = false := by intro j; rw [<- hw0]; exact ze _ _ _ _
 have rl : W.heap.size < c.w0.heap.size := by rw [<- hw0]; simp
 have HWW := Lib.hid (show Below W.heap.size W c.w0 by rw [<- hw0]; exact (Below.refl _ _).alloc (Nat.le_refl _) _)
 have HRES := Lib.hid (show ∀ w, Tur c.w0 w c.G c.T -> w.heap[W.heap.size]? = c.w0.heap[W.heap.size]? from fun w ht => ht.block _ rl hRG hRT)
 have HR0 := Lib.hid r0
 have HR1 := Lib.hid r1
 have HR2 := Lib.hid r2
 have HRF := Lib.hid rf
 clear h hpath hw0 hcode hwords hL h0 hF i1 hcC hfc2 r0 r1 r2 rf
 go_enter Tryz.func23, Tryz.ntmps23
 go_wp2_with fail
 rw [HW0.out]
 go_loopg [] nC (fun g wr => ∃ (pc : Nat) (st : List Wd) (hp : Hp) (fu : Int) (A : Option Addr) (len cap : Nat) (v : Value), g = nC - pc /\ Inv c r wr pc st hp fu A len cap v)
 case atStart => exact ⟨0, [], [], _, _, _, _, _, by omega, HI0.out⟩
 obtain ⟨pc, st, hp, fu, A, len, cap, v, hg, hI⟩ := hrel
 have HG := Lib.hid hg
 have hpth := hI.path
 have HI := Lib.hid hI
 clear hg hI
 cases hpth with
 | stop hst =>
  have HST := Lib.hid hst
  cases hst with
  | @primE _ st2 _ s n l er hC0 hl hn hr =>
   have hmem := List.mem_of_getElem? hC0
   have har := (prim_ar (prims_of c.x hx true 0 _ _ hmem).1).1
   have HLW2 := Lib.hid (show ∀ y ∈ l, WIn hp y from fun y hy => HI.out.ok.st y (List.mem_append_right _ hy))
   have HAR := Lib.hid (show arP s = l.length by rw [har, hl])
   have HLN := Lib.hid hl
   have HL1 := Lib.hid (show 1 <= l.length by omega)
   have HRR := Lib.hid hr
   have HER := Lib.hid (show ∀ e, er = e -> ¬ e = 0 from fun e he => he ▸ primW_err (by rw [har, hl]) hr)
   clear hl hn hr hmem har
   have hlc := lt_of_get hC0
   have hlc2 : pc < nC := by omega
   obtain ⟨bI, oI, hAI, hbI, hnI, d0, d1, d2, d3, d4, d5, d6, d7⟩ := (HCODE.out wr HI.out.eng.tur).2.2.nth hC0
   simp only [primI, noW] at d0 d1 d2 d3 d4 d5 d6 d7
   obtain ⟨rfl, rfl⟩ : bC = bI /\ oC = oI := by simpa using hAI
   have hpn : (pc : Int) < (nC : Int) := by omega
   have hpc2 : (pc : Int) < (cC : Int) := by omega
   have hp0 : (0 : Int) <= (pc : Int) := Int.natCast_nonneg _
   have hEr := HI.out.eng
   have KT := Lib.hid (show ∀ W : World, Below wr.heap.size wr W -> Calls Tryz.prog 50 #[.pointer (some ⟨c.G, 0, none⟩)] W (fun e w' => e = .returned (.pointer (some ⟨c.T, 0, none⟩)) /\ Below W.heap.size W w') from fun W hW => top_b (HI.out.eng.new k hW).g5 k.ca1 k.ca2)
   have HGL := Lib.hid (hEr.ltG k)
   have hTr := hEr.ltT k
   clear hAI hEr hC0
   go_wp2_with fail
   refine (KT.out _ (Below.refl _ _)).mono ?_
   rintro e w1 ⟨rfl, hb1⟩
   have hE1 := HI.out.eng.new k hb1
   have g0 := hE1.g0
   rw [HFE.out] at g0
   have t0 := hE1.t0
   have t1 := hE1.t1
   have tf1 := hE1.tf 1
   have e0 := (hb1.cell (p := ⟨bC, oC + pc * 8, none⟩) hbI).trans d0
   have e1 := (hb1.cell (p := ⟨bC, oC + pc * 8 + 1, none⟩) hbI).trans d1
   have e2 := (hb1.cell (p := ⟨bC, oC + pc * 8 + 2, none⟩) hbI).trans d2
   have e3 := (hb1.cell (p := ⟨bC, oC + pc * 8 + 3, none⟩) hbI).trans d3
   have e4 := (hb1.cell (p := ⟨bC, oC + pc * 8 + 4, none⟩) hbI).trans d4
   have e5 := (hb1.cell (p := ⟨bC, oC + pc * 8 + 5, none⟩) hbI).trans d5
   have e6 := (hb1.cell (p := ⟨bC, oC + pc * 8 + 6, none⟩) hbI).trans d6
   have e7 := (hb1.cell (p := ⟨bC, oC + pc * 8 + 7, none⟩) hbI).trans d7
   have fc3 := (HCODE.out w1 hE1.tur).2.1
   have hbF := (HCODE.out w1 hE1.tur).1
   have HE1 := Lib.hid hE1
   have hT1 := hE1.ltT k
   have hG1 := hE1.ltG k
   have hs1 := hb1.size
   have hbC1 : bC < w1.heap.size := Nat.lt_of_lt_of_le hbI hs1
   clear hE1 hb1 d0 d1 d2 d3 d4 d5 d6 d7
   go_wp2_with fail
   go_region
   obtain ⟨w2, hw2⟩ : ∃ w2, (w1.alloc (.cells #[.int .i64 18, .int .i64 n, .int .i64 0, .string s, .string ⟨#[]⟩, .int .i64 0, .int .i64 0, .string ⟨#[]⟩] 51)).drew = w2 := ⟨_, rfl⟩
   have hb2 : Below w1.heap.size w1 w2 := by rw [<- hw2]; exact ((Below.refl _ _).alloc (Nat.le_refl _) _).drew
   have hE2 := HE1.out.new k hb2
   have t12 := hE2.t1
   have tf2 := hE2.tf 1
   have j0 : w2.cell? ⟨w1.heap.size, 0, none⟩ = some (.int .i64 18) := by rw [<- hw2]; exact za _ _ _ 0
   have j1 : w2.cell? ⟨w1.heap.size, 1, none⟩ = some (.int .i64 n) := by rw [<- hw2]; exact za _ _ _ 1
   have j2 : w2.cell? ⟨w1.heap.size, 2, none⟩ = some (.int .i64 0) := by rw [<- hw2]; exact za _ _ _ 2
   have j3 : w2.cell? ⟨w1.heap.size, 3, none⟩ = some (.string s) := by rw [<- hw2]; exact za _ _ _ 3
   have j4 : w2.cell? ⟨w1.heap.size, 4, none⟩ = some (.string ⟨#[]⟩) := by rw [<- hw2]; exact za _ _ _ 4
   have j5 : w2.cell? ⟨w1.heap.size, 5, none⟩ = some (.int .i64 0) := by rw [<- hw2]; exact za _ _ _ 5
   have j6 : w2.cell? ⟨w1.heap.size, 6, none⟩ = some (.int .i64 0) := by rw [<- hw2]; exact za _ _ _ 6
   have j7 : w2.cell? ⟨w1.heap.size, 7, none⟩ = some (.string ⟨#[]⟩) := by rw [<- hw2]; exact za _ _ _ 7
   obtain ⟨p1, hp1⟩ : ∃ p1 : Nat, p1 = pc + 1 := ⟨_, rfl⟩
   have hp1i : (pc : Int) + 1 = (p1 : Int) := by omega
   have hHP := HI.out.hl
   have hSP := HI.out.sl
   have HLEN := Lib.hid (show len + 3 <= 60000 from by have h1 := HI.out.eng.heap.size; rw [flat_len] at h1; omega)
   have HE2 := Lib.hid hE2
   have HP1 := Lib.hid hp1
   rw [hw2]
   clear hw2 hb2 hE2 g0 t0 t1 tf1 e0 e1 e2 e3 e4 e5 e6 e7 fc3 hp1
   go_upto_region 4 with fail
   obtain ⟨w3, hw3⟩ : ∃ w3, w2.setCell ⟨c.T, 1, none⟩ (.int .i64 p1) = w3 := ⟨_, rfl⟩
   have hnT : w1.heap.size ≠ c.T := by omega
   have hE3 : Eng c w3 (p1 : Int) (st2 ++ l) hp fu A len cap v := by rw [<- hw3]; exact HE2.out.setPc k p1
   have l0 : w3.cell? ⟨w1.heap.size, 0, none⟩ = some (.int .i64 18) := by rw [<- hw3]; exact set_otherB j0 hnT
   have l1 : w3.cell? ⟨w1.heap.size, 1, none⟩ = some (.int .i64 n) := by rw [<- hw3]; exact set_otherB j1 hnT
   have l2 : w3.cell? ⟨w1.heap.size, 2, none⟩ = some (.int .i64 0) := by rw [<- hw3]; exact set_otherB j2 hnT
   have l3 : w3.cell? ⟨w1.heap.size, 3, none⟩ = some (.string s) := by rw [<- hw3]; exact set_otherB j3 hnT
   have l4 : w3.cell? ⟨w1.heap.size, 4, none⟩ = some (.string ⟨#[]⟩) := by rw [<- hw3]; exact set_otherB j4 hnT
   have l5 : w3.cell? ⟨w1.heap.size, 5, none⟩ = some (.int .i64 0) := by rw [<- hw3]; exact set_otherB j5 hnT
   have l6 : w3.cell? ⟨w1.heap.size, 6, none⟩ = some (.int .i64 0) := by rw [<- hw3]; exact set_otherB j6 hnT
   have l7 : w3.cell? ⟨w1.heap.size, 7, none⟩ = some (.string ⟨#[]⟩) := by rw [<- hw3]; exact set_otherB j7 hnT
   have HE3 := Lib.hid hE3
   rw [hw3]
   clear hw3 hE3 j0 j1 j2 j3 j4 j5 j6 j7 t12 tf2
   go_wp2_with fail
   refine (one_prim k HE3.out (by omega) HLEN.out HLW2.out HLN.out HAR.out HL1.out).mono ?_
   rintro e w4 hO
   rw [HRR.out] at hO
   obtain ⟨rfl, hT4⟩ := hO
   have hres := HRES.out w4 hT4
   have b0 := (World.cell?_of_block (a := ⟨W.heap.size, 0, none⟩) hres).trans HR0.out
   have b1 := (World.cell?_of_block (a := ⟨W.heap.size, 1, none⟩) hres).trans HR1.out
   have b2 := (World.cell?_of_block (a := ⟨W.heap.size, 2, none⟩) hres).trans HR2.out
   have q0 := (World.frozen?_of_block (a := ⟨W.heap.size, 0, none⟩) hres).trans (HRF.out 0)
   have q1 := (World.frozen?_of_block (a := ⟨W.heap.size, 1, none⟩) hres).trans (HRF.out 1)
   have q2 := (World.frozen?_of_block (a := ⟨W.heap.size, 2, none⟩) hres).trans (HRF.out 2)
   have S0 := Lib.hid (set3_0 (u0 := .int .i64 0) (u1 := .int .i64 0) (u2 := .string ⟨#[]⟩) b0)
   have S1 := Lib.hid (set3_1 (u0 := .int .i64 0) (u1 := .int .i64 0) (u2 := .string ⟨#[]⟩) b1)
   have S2 := Lib.hid (set3_2 (u0 := .int .i64 0) (u1 := .int .i64 0) (u2 := .string ⟨#[]⟩) b2)
   have her : ¬ er = 0 := HER.out er rfl
   have HT4 := Lib.hid hT4
   clear hres hT4
   go_wp2_with fail
   have s0 := S0.out
   have s1 := S1.out
   have s2 := S2.out
   refine bodyPost_ret (v := .tuple #[.agg #[.int .i64 0, .int .i64 0, .string ⟨#[]⟩], .int .i64 er]) (by simp [results, Tryz.results23, go_sem, s0, s1, s2]) rfl ?_
   exact ⟨rfl, (HT4.out.from HWW.out).grown (grown_set3 _ _ _ _ _) (fun b e => Or.inr (Or.inr (by have := Option.some.inj e; omega)))⟩
  | @ret _ st2 _ x hC0 =>
   obtain ⟨xk, xn, xs⟩ := x
   have hlc := lt_of_get hC0
   have hlc2 : pc < nC := by omega
   obtain ⟨bI, oI, hAI, hbI, hnI, d0, d1, d2, d3, d4, d5, d6, d7⟩ := (HCODE.out wr HI.out.eng.tur).2.2.nth hC0
   simp only [retI, noW] at d0 d1 d2 d3 d4 d5 d6 d7
   obtain ⟨rfl, rfl⟩ : bC = bI /\ oC = oI := by simpa using hAI
   have hpn : (pc : Int) < (nC : Int) := by omega
   have hpc2 : (pc : Int) < (cC : Int) := by omega
   have hp0 : (0 : Int) <= (pc : Int) := Int.natCast_nonneg _
   have hEr := HI.out.eng
   have KT := Lib.hid (show ∀ W : World, Below wr.heap.size wr W -> Calls Tryz.prog 50 #[.pointer (some ⟨c.G, 0, none⟩)] W (fun e w' => e = .returned (.pointer (some ⟨c.T, 0, none⟩)) /\ Below W.heap.size W w') from fun W hW => top_b (HI.out.eng.new k hW).g5 k.ca1 k.ca2)
   have HGL := Lib.hid (hEr.ltG k)
   have hTr := hEr.ltT k
   clear hAI hEr hC0
   go_wp2_with fail
   refine (KT.out _ (Below.refl _ _)).mono ?_
   rintro e w1 ⟨rfl, hb1⟩
   have hE1 := HI.out.eng.new k hb1
   have g0 := hE1.g0
   rw [HFE.out] at g0
   have t0 := hE1.t0
   have t1 := hE1.t1
   have tf1 := hE1.tf 1
   have e0 := (hb1.cell (p := ⟨bC, oC + pc * 8, none⟩) hbI).trans d0
   have e1 := (hb1.cell (p := ⟨bC, oC + pc * 8 + 1, none⟩) hbI).trans d1
   have e2 := (hb1.cell (p := ⟨bC, oC + pc * 8 + 2, none⟩) hbI).trans d2
   have e3 := (hb1.cell (p := ⟨bC, oC + pc * 8 + 3, none⟩) hbI).trans d3
   have e4 := (hb1.cell (p := ⟨bC, oC + pc * 8 + 4, none⟩) hbI).trans d4
   have e5 := (hb1.cell (p := ⟨bC, oC + pc * 8 + 5, none⟩) hbI).trans d5
   have e6 := (hb1.cell (p := ⟨bC, oC + pc * 8 + 6, none⟩) hbI).trans d6
   have e7 := (hb1.cell (p := ⟨bC, oC + pc * 8 + 7, none⟩) hbI).trans d7
   have fc3 := (HCODE.out w1 hE1.tur).2.1
   have hbF := (HCODE.out w1 hE1.tur).1
   have HE1 := Lib.hid hE1
   have hT1 := hE1.ltT k
   have hG1 := hE1.ltG k
   have hs1 := hb1.size
   have hbC1 : bC < w1.heap.size := Nat.lt_of_lt_of_le hbI hs1
   clear hE1 hb1 d0 d1 d2 d3 d4 d5 d6 d7
   go_wp2_with fail
   go_region
   obtain ⟨w2, hw2⟩ : ∃ w2, (w1.alloc (.cells #[.int .i64 14, .int .i64 0, .int .i64 0, .string ⟨#[]⟩, .string ⟨#[]⟩, .int .i64 0, .int .i64 0, .string ⟨#[]⟩] 51)).drew = w2 := ⟨_, rfl⟩
   have hb2 : Below w1.heap.size w1 w2 := by rw [<- hw2]; exact ((Below.refl _ _).alloc (Nat.le_refl _) _).drew
   have hE2 := HE1.out.new k hb2
   have t12 := hE2.t1
   have tf2 := hE2.tf 1
   have j0 : w2.cell? ⟨w1.heap.size, 0, none⟩ = some (.int .i64 14) := by rw [<- hw2]; exact za _ _ _ 0
   have j1 : w2.cell? ⟨w1.heap.size, 1, none⟩ = some (.int .i64 0) := by rw [<- hw2]; exact za _ _ _ 1
   have j2 : w2.cell? ⟨w1.heap.size, 2, none⟩ = some (.int .i64 0) := by rw [<- hw2]; exact za _ _ _ 2
   have j3 : w2.cell? ⟨w1.heap.size, 3, none⟩ = some (.string ⟨#[]⟩) := by rw [<- hw2]; exact za _ _ _ 3
   have j4 : w2.cell? ⟨w1.heap.size, 4, none⟩ = some (.string ⟨#[]⟩) := by rw [<- hw2]; exact za _ _ _ 4
   have j5 : w2.cell? ⟨w1.heap.size, 5, none⟩ = some (.int .i64 0) := by rw [<- hw2]; exact za _ _ _ 5
   have j6 : w2.cell? ⟨w1.heap.size, 6, none⟩ = some (.int .i64 0) := by rw [<- hw2]; exact za _ _ _ 6
   have j7 : w2.cell? ⟨w1.heap.size, 7, none⟩ = some (.string ⟨#[]⟩) := by rw [<- hw2]; exact za _ _ _ 7
   obtain ⟨p1, hp1⟩ : ∃ p1 : Nat, p1 = pc + 1 := ⟨_, rfl⟩
   have hp1i : (pc : Int) + 1 = (p1 : Int) := by omega
   have hHP := HI.out.hl
   have hSP := HI.out.sl
   have HLEN := Lib.hid (show len + 3 <= 60000 from by have h1 := HI.out.eng.heap.size; rw [flat_len] at h1; omega)
   have HE2 := Lib.hid hE2
   have HP1 := Lib.hid hp1
   rw [hw2]
   clear hw2 hb2 hE2 g0 t0 t1 tf1 e0 e1 e2 e3 e4 e5 e6 e7 fc3 hp1
   go_upto_region 4 with fail
   obtain ⟨w3, hw3⟩ : ∃ w3, w2.setCell ⟨c.T, 1, none⟩ (.int .i64 p1) = w3 := ⟨_, rfl⟩
   have hnT : w1.heap.size ≠ c.T := by omega
   have hE3 : Eng c w3 (p1 : Int) (st2 ++ [⟨xk, xn, xs⟩]) hp fu A len cap v := by rw [<- hw3]; exact HE2.out.setPc k p1
   have l0 : w3.cell? ⟨w1.heap.size, 0, none⟩ = some (.int .i64 14) := by rw [<- hw3]; exact set_otherB j0 hnT
   have l1 : w3.cell? ⟨w1.heap.size, 1, none⟩ = some (.int .i64 0) := by rw [<- hw3]; exact set_otherB j1 hnT
   have l2 : w3.cell? ⟨w1.heap.size, 2, none⟩ = some (.int .i64 0) := by rw [<- hw3]; exact set_otherB j2 hnT
   have l3 : w3.cell? ⟨w1.heap.size, 3, none⟩ = some (.string ⟨#[]⟩) := by rw [<- hw3]; exact set_otherB j3 hnT
   have l4 : w3.cell? ⟨w1.heap.size, 4, none⟩ = some (.string ⟨#[]⟩) := by rw [<- hw3]; exact set_otherB j4 hnT
   have l5 : w3.cell? ⟨w1.heap.size, 5, none⟩ = some (.int .i64 0) := by rw [<- hw3]; exact set_otherB j5 hnT
   have l6 : w3.cell? ⟨w1.heap.size, 6, none⟩ = some (.int .i64 0) := by rw [<- hw3]; exact set_otherB j6 hnT
   have l7 : w3.cell? ⟨w1.heap.size, 7, none⟩ = some (.string ⟨#[]⟩) := by rw [<- hw3]; exact set_otherB j7 hnT
   have HE3 := Lib.hid hE3
   rw [hw3]
   clear hw3 hE3 j0 j1 j2 j3 j4 j5 j6 j7 t12 tf2
   go_wp2_with fail
   refine (take_any k HE3.out (by omega) (by simp) 1 rfl).mono ?_
   rintro e w4 ⟨Av, cv, v4, rfl, hwd, hnb, hE4, hg4, hv4⟩
   simp only [List.length_cons, List.length_nil, Nat.zero_add] at hwd hnb ⊢
   obtain ⟨bv, ov, rfl, hbv, _, d0, d1, d2⟩ := hwd.nth (i := 0) (x := ⟨xk, xn, xs⟩) rfl
   simp only [Nat.zero_mul, Nat.add_zero] at d0 d1 d2
   have hcv := hwd.cap_
   have hlv := hwd.le
   have hcv2 : cv <= 9223372036854775807 := by unfold maxLen at hcv; omega
   have hcv0 : (0 : Int) < (cv : Int) := by omega
   have hca1 := k.ca1
   have hca2 := k.ca2
   have hca0 : (0 : Int) <= (c.ca : Int) := by omega
   have g54 := hE4.g5
   have gf5 := hE4.gf 5
   have hGT := k.ne
   have HNB := Lib.hid hnb
   have HE4 := Lib.hid hE4
   have hG4 := hE4.ltG k
   have hv4b : bv ≠ c.G := by have h1 := (hnb bv ⟨_, rfl, by decide, rfl⟩).1; have h2 := HE3.out.ltG k; omega
   have HGF := Lib.hid (HGL.out)
   clear hwd hnb hE4 hg4 hv4 hcv
   go_wp2_with fail
   go_region
   all_goals
    go_upto_region 10 with fail
    obtain ⟨w5, hw5⟩ : ∃ w5, (w4.setCell ⟨c.G, 5, none⟩ (.slice (some ⟨c.T, 0, none⟩) 0 c.ca)).drew = w5 := ⟨_, rfl⟩
    have hg45 : w4.grownBy w5 (some c.G) := by rw [<- hw5]; exact (zd _ _ _ _).trans (zb ((Below.refl _ _).drew) _)
    have hT5 : Tur c.w0 w5 c.G c.T := HE4.out.tur.grown hg45 (fun b e => Or.inl (Option.some.inj e).symm)
    have g55 : w5.cell? ⟨c.G, 5, none⟩ = some (.slice (some ⟨c.T, 0, none⟩) 0 c.ca) := by rw [<- hw5]; exact zh g54
    have G05 := Lib.hid (show w5.cell? ⟨c.G, 0, none⟩ = some (.slice c.F 2 c.fc) by rw [<- hw5]; exact zg HE4.out.g0 (by decide))
    have G15 := Lib.hid (show w5.cell? ⟨c.G, 1, none⟩ = some (.slice none 0 0) by rw [<- hw5]; exact zg HE4.out.g1 (by decide))
    have G25 := Lib.hid (show w5.cell? ⟨c.G, 2, none⟩ = some (.slice none 0 0) by rw [<- hw5]; exact zg HE4.out.g2 (by decide))
    have G35 := Lib.hid (show w5.cell? ⟨c.G, 3, none⟩ = some (.slice A len cap) by rw [<- hw5]; exact zg HE4.out.g3 (by decide))
    have G45 := Lib.hid (show w5.cell? ⟨c.G, 4, none⟩ = some (.int .i64 60000) by rw [<- hw5]; exact zg HE4.out.g4 (by decide))
    have o0 : w5.cell? ⟨bv, ov, none⟩ = some (.int .i64 xk) := by rw [<- hw5]; exact set_otherB d0 hv4b
    have o1 : w5.cell? ⟨bv, ov + 1, none⟩ = some (.int .i64 xn) := by rw [<- hw5]; exact set_otherB d1 hv4b
    have o2 : w5.cell? ⟨bv, ov + 2, none⟩ = some (.string xs) := by rw [<- hw5]; exact set_otherB d2 hv4b
    have HH5 := Lib.hid (HE4.out.heap.grown hg45 (fun b hb e => (HE4.out.apart b hb).1 (Option.some.inj e).symm))
    have HT5 := Lib.hid hT5
    have hres := HRES.out w5 HT5.out
    have b0 := (World.cell?_of_block (a := ⟨W.heap.size, 0, none⟩) hres).trans HR0.out
    have b1 := (World.cell?_of_block (a := ⟨W.heap.size, 1, none⟩) hres).trans HR1.out
    have b2 := (World.cell?_of_block (a := ⟨W.heap.size, 2, none⟩) hres).trans HR2.out
    have q0 := (World.frozen?_of_block (a := ⟨W.heap.size, 0, none⟩) hres).trans (HRF.out 0)
    have q1 := (World.frozen?_of_block (a := ⟨W.heap.size, 1, none⟩) hres).trans (HRF.out 1)
    have q2 := (World.frozen?_of_block (a := ⟨W.heap.size, 2, none⟩) hres).trans (HRF.out 2)
    have S0 := Lib.hid (set3_0 (u0 := .int .i64 xk) (u1 := .int .i64 xn) (u2 := .string xs) b0)
    have S1 := Lib.hid (set3_1 (u0 := .int .i64 xk) (u1 := .int .i64 xn) (u2 := .string xs) b1)
    have S2 := Lib.hid (set3_2 (u0 := .int .i64 xk) (u1 := .int .i64 xn) (u2 := .string xs) b2)
    have HNR := Lib.hid (show ∀ q, inSl A len q -> q ≠ W.heap.size from fun q hq e => by
     obtain ⟨a, rfl, hl0, rfl⟩ := hq
     obtain ⟨bb, oo, hA, _, hc5⟩ := HH5.out.at_ hl0
     obtain rfl : a = ⟨bb, oo, none⟩ := by simpa using hA
     have h8 := (hc5 0 (by rw [flat_len]; omega)).1
     simp only [Nat.zero_mul, Nat.add_zero] at h8 e
     subst e
     have h9 : ∀ j, w5.cell? ⟨W.heap.size, j, none⟩ = (#[.int .i64 0, .int .i64 0, .string ⟨#[]⟩] : Array Value)[j]? := fun j => (World.cell?_of_block (a := ⟨W.heap.size, j, none⟩) (HRES.out w5 HT5.out)).trans (by rw [<- HW0.out]; exact za _ _ _ j)
     rw [h9 oo] at h8
     match oo, h8 with
     | 0, h8 => exact absurd h8 (by simp [flat, cloW])
     | 1, h8 => exact absurd h8 (by simp [flat, cloW])
     | 2, h8 => exact absurd h8 (by simp)
     | oo + 3, h8 => exact absurd h8 (by simp))
    rw [hw5]
    clear hw5 hg45 hT5 g54 gf5 d0 d1 d2 hres
    go_wp2_with fail
    have s0 := S0.out
    have s1 := S1.out
    have s2 := S2.out
    refine bodyPost_ret (v := .tuple #[.agg #[.int .i64 xk, .int .i64 xn, .string xs], .int .i64 0]) (by simp [results, Tryz.results23, go_sem, s0, s1, s2]) rfl ?_
    obtain ⟨_, hwin⟩ := (step_ok HWD.out HLW.out HI.out.ok).2 _ _ HST.out
    exact ⟨rfl, hwin, A, len, cap, (HT5.out.from HWW.out).grown (grown_set3 _ _ _ _ _) (fun b e => Or.inr (Or.inr (by have := Option.some.inj e; omega))), set_otherB (set_otherB (set_otherB G05.out hRG.symm) hRG.symm) hRG.symm, set_otherB (set_otherB (set_otherB G15.out hRG.symm) hRG.symm) hRG.symm, set_otherB (set_otherB (set_otherB G25.out hRG.symm) hRG.symm) hRG.symm, set_otherB (set_otherB (set_otherB G35.out hRG.symm) hRG.symm) hRG.symm, set_otherB (set_otherB (set_otherB G45.out hRG.symm) hRG.symm) hRG.symm,
     HH5.out.grown (grown_set3 _ _ _ _ _) (fun b hb e => HNR.out b hb (Option.some.inj e).symm), HI.out.ok.hp, by have h1 := HLEN.out; omega⟩
 | next hst kk =>
  have HST := Lib.hid hst
  have HKK := Lib.hid kk
  cases hst with
  | tick hC0 =>
   clear kk
   have hlc := lt_of_get hC0
   have hlc2 : pc < nC := by omega
   obtain ⟨bI, oI, hAI, hbI, hnI, d0, d1, d2, d3, d4, d5, d6, d7⟩ := (HCODE.out wr HI.out.eng.tur).2.2.nth hC0
   simp only [tickI, noW] at d0 d1 d2 d3 d4 d5 d6 d7
   obtain ⟨rfl, rfl⟩ : bC = bI /\ oC = oI := by simpa using hAI
   have hpn : (pc : Int) < (nC : Int) := by omega
   have hpc2 : (pc : Int) < (cC : Int) := by omega
   have hp0 : (0 : Int) <= (pc : Int) := Int.natCast_nonneg _
   have hEr := HI.out.eng
   have KT := Lib.hid (show ∀ W : World, Below wr.heap.size wr W -> Calls Tryz.prog 50 #[.pointer (some ⟨c.G, 0, none⟩)] W (fun e w' => e = .returned (.pointer (some ⟨c.T, 0, none⟩)) /\ Below W.heap.size W w') from fun W hW => top_b (HI.out.eng.new k hW).g5 k.ca1 k.ca2)
   have HGL := Lib.hid (hEr.ltG k)
   have hTr := hEr.ltT k
   clear hAI hEr hC0
   go_wp2_with fail
   refine (KT.out _ (Below.refl _ _)).mono ?_
   rintro e w1 ⟨rfl, hb1⟩
   have hE1 := HI.out.eng.new k hb1
   have g0 := hE1.g0
   rw [HFE.out] at g0
   have t0 := hE1.t0
   have t1 := hE1.t1
   have tf1 := hE1.tf 1
   have e0 := (hb1.cell (p := ⟨bC, oC + pc * 8, none⟩) hbI).trans d0
   have e1 := (hb1.cell (p := ⟨bC, oC + pc * 8 + 1, none⟩) hbI).trans d1
   have e2 := (hb1.cell (p := ⟨bC, oC + pc * 8 + 2, none⟩) hbI).trans d2
   have e3 := (hb1.cell (p := ⟨bC, oC + pc * 8 + 3, none⟩) hbI).trans d3
   have e4 := (hb1.cell (p := ⟨bC, oC + pc * 8 + 4, none⟩) hbI).trans d4
   have e5 := (hb1.cell (p := ⟨bC, oC + pc * 8 + 5, none⟩) hbI).trans d5
   have e6 := (hb1.cell (p := ⟨bC, oC + pc * 8 + 6, none⟩) hbI).trans d6
   have e7 := (hb1.cell (p := ⟨bC, oC + pc * 8 + 7, none⟩) hbI).trans d7
   have fc3 := (HCODE.out w1 hE1.tur).2.1
   have hbF := (HCODE.out w1 hE1.tur).1
   have HE1 := Lib.hid hE1
   have hT1 := hE1.ltT k
   have hG1 := hE1.ltG k
   have hs1 := hb1.size
   have hbC1 : bC < w1.heap.size := Nat.lt_of_lt_of_le hbI hs1
   clear hE1 hb1 d0 d1 d2 d3 d4 d5 d6 d7
   go_wp2_with fail
   go_region
   obtain ⟨w2, hw2⟩ : ∃ w2, (w1.alloc (.cells #[.int .i64 1, .int .i64 0, .int .i64 0, .string ⟨#[]⟩, .string ⟨#[]⟩, .int .i64 0, .int .i64 0, .string ⟨#[]⟩] 51)).drew = w2 := ⟨_, rfl⟩
   have hb2 : Below w1.heap.size w1 w2 := by rw [<- hw2]; exact ((Below.refl _ _).alloc (Nat.le_refl _) _).drew
   have hE2 := HE1.out.new k hb2
   have t12 := hE2.t1
   have tf2 := hE2.tf 1
   have j0 : w2.cell? ⟨w1.heap.size, 0, none⟩ = some (.int .i64 1) := by rw [<- hw2]; exact za _ _ _ 0
   have j1 : w2.cell? ⟨w1.heap.size, 1, none⟩ = some (.int .i64 0) := by rw [<- hw2]; exact za _ _ _ 1
   have j2 : w2.cell? ⟨w1.heap.size, 2, none⟩ = some (.int .i64 0) := by rw [<- hw2]; exact za _ _ _ 2
   have j3 : w2.cell? ⟨w1.heap.size, 3, none⟩ = some (.string ⟨#[]⟩) := by rw [<- hw2]; exact za _ _ _ 3
   have j4 : w2.cell? ⟨w1.heap.size, 4, none⟩ = some (.string ⟨#[]⟩) := by rw [<- hw2]; exact za _ _ _ 4
   have j5 : w2.cell? ⟨w1.heap.size, 5, none⟩ = some (.int .i64 0) := by rw [<- hw2]; exact za _ _ _ 5
   have j6 : w2.cell? ⟨w1.heap.size, 6, none⟩ = some (.int .i64 0) := by rw [<- hw2]; exact za _ _ _ 6
   have j7 : w2.cell? ⟨w1.heap.size, 7, none⟩ = some (.string ⟨#[]⟩) := by rw [<- hw2]; exact za _ _ _ 7
   obtain ⟨p1, hp1⟩ : ∃ p1 : Nat, p1 = pc + 1 := ⟨_, rfl⟩
   have hp1i : (pc : Int) + 1 = (p1 : Int) := by omega
   have hHP := HI.out.hl
   have hSP := HI.out.sl
   have HLEN := Lib.hid (show len + 3 <= 60000 from by have h1 := HI.out.eng.heap.size; rw [flat_len] at h1; omega)
   have HE2 := Lib.hid hE2
   have HP1 := Lib.hid hp1
   rw [hw2]
   clear hw2 hb2 hE2 g0 t0 t1 tf1 e0 e1 e2 e3 e4 e5 e6 e7 fc3 hp1
   go_upto_region 4 with fail
   obtain ⟨w3, hw3⟩ : ∃ w3, w2.setCell ⟨c.T, 1, none⟩ (.int .i64 p1) = w3 := ⟨_, rfl⟩
   have hnT : w1.heap.size ≠ c.T := by omega
   have hE3 : Eng c w3 (p1 : Int) st hp fu A len cap v := by rw [<- hw3]; exact HE2.out.setPc k p1
   have l0 : w3.cell? ⟨w1.heap.size, 0, none⟩ = some (.int .i64 1) := by rw [<- hw3]; exact set_otherB j0 hnT
   have l1 : w3.cell? ⟨w1.heap.size, 1, none⟩ = some (.int .i64 0) := by rw [<- hw3]; exact set_otherB j1 hnT
   have l2 : w3.cell? ⟨w1.heap.size, 2, none⟩ = some (.int .i64 0) := by rw [<- hw3]; exact set_otherB j2 hnT
   have l3 : w3.cell? ⟨w1.heap.size, 3, none⟩ = some (.string ⟨#[]⟩) := by rw [<- hw3]; exact set_otherB j3 hnT
   have l4 : w3.cell? ⟨w1.heap.size, 4, none⟩ = some (.string ⟨#[]⟩) := by rw [<- hw3]; exact set_otherB j4 hnT
   have l5 : w3.cell? ⟨w1.heap.size, 5, none⟩ = some (.int .i64 0) := by rw [<- hw3]; exact set_otherB j5 hnT
   have l6 : w3.cell? ⟨w1.heap.size, 6, none⟩ = some (.int .i64 0) := by rw [<- hw3]; exact set_otherB j6 hnT
   have l7 : w3.cell? ⟨w1.heap.size, 7, none⟩ = some (.string ⟨#[]⟩) := by rw [<- hw3]; exact set_otherB j7 hnT
   have HE3 := Lib.hid hE3
   rw [hw3]
   clear hw3 hE3 j0 j1 j2 j3 j4 j5 j6 j7 t12 tf2
   go_wp2_with fail
   refine (one_tick k HE3.out (by have h1 := HI.out.f1; have h2 := HI.out.f2; omega)).mono ?_
   rintro e w4 ⟨rfl, A4, len4, cap4, v4, hE4⟩
   have HE4 := Lib.hid hE4
   clear hE4
   go_wp2_with fail
   go_roundg (nC - p1)
   case rel =>
    have hpp := HP1.out
    try subst hpp
    exact ⟨_, _, _, _, _, _, _, _, rfl, HI.out.next HWD.out HLW.out HST.out HKK.out HE4.out (Or.inr rfl)⟩
   case measure => have h1 := HG.out; have h2 := (step_sizes HST.out).2.1; have h3 := HP1.out; simp only at h2; omega
  | @const _ _ _ cw hC0 =>
   clear kk
   obtain ⟨ck, cn, cs⟩ := cw
   have hlc := lt_of_get hC0
   have hlc2 : pc < nC := by omega
   obtain ⟨bI, oI, hAI, hbI, hnI, d0, d1, d2, d3, d4, d5, d6, d7⟩ := (HCODE.out wr HI.out.eng.tur).2.2.nth hC0
   simp only [constI] at d0 d1 d2 d3 d4 d5 d6 d7
   obtain ⟨rfl, rfl⟩ : bC = bI /\ oC = oI := by simpa using hAI
   have hpn : (pc : Int) < (nC : Int) := by omega
   have hpc2 : (pc : Int) < (cC : Int) := by omega
   have hp0 : (0 : Int) <= (pc : Int) := Int.natCast_nonneg _
   have hEr := HI.out.eng
   have KT := Lib.hid (show ∀ W : World, Below wr.heap.size wr W -> Calls Tryz.prog 50 #[.pointer (some ⟨c.G, 0, none⟩)] W (fun e w' => e = .returned (.pointer (some ⟨c.T, 0, none⟩)) /\ Below W.heap.size W w') from fun W hW => top_b (HI.out.eng.new k hW).g5 k.ca1 k.ca2)
   have HGL := Lib.hid (hEr.ltG k)
   have hTr := hEr.ltT k
   clear hAI hEr hC0
   go_wp2_with fail
   refine (KT.out _ (Below.refl _ _)).mono ?_
   rintro e w1 ⟨rfl, hb1⟩
   have hE1 := HI.out.eng.new k hb1
   have g0 := hE1.g0
   rw [HFE.out] at g0
   have t0 := hE1.t0
   have t1 := hE1.t1
   have tf1 := hE1.tf 1
   have e0 := (hb1.cell (p := ⟨bC, oC + pc * 8, none⟩) hbI).trans d0
   have e1 := (hb1.cell (p := ⟨bC, oC + pc * 8 + 1, none⟩) hbI).trans d1
   have e2 := (hb1.cell (p := ⟨bC, oC + pc * 8 + 2, none⟩) hbI).trans d2
   have e3 := (hb1.cell (p := ⟨bC, oC + pc * 8 + 3, none⟩) hbI).trans d3
   have e4 := (hb1.cell (p := ⟨bC, oC + pc * 8 + 4, none⟩) hbI).trans d4
   have e5 := (hb1.cell (p := ⟨bC, oC + pc * 8 + 5, none⟩) hbI).trans d5
   have e6 := (hb1.cell (p := ⟨bC, oC + pc * 8 + 6, none⟩) hbI).trans d6
   have e7 := (hb1.cell (p := ⟨bC, oC + pc * 8 + 7, none⟩) hbI).trans d7
   have fc3 := (HCODE.out w1 hE1.tur).2.1
   have hbF := (HCODE.out w1 hE1.tur).1
   have HE1 := Lib.hid hE1
   have hT1 := hE1.ltT k
   have hG1 := hE1.ltG k
   have hs1 := hb1.size
   have hbC1 : bC < w1.heap.size := Nat.lt_of_lt_of_le hbI hs1
   clear hE1 hb1 d0 d1 d2 d3 d4 d5 d6 d7
   go_wp2_with fail
   go_region
   obtain ⟨w2, hw2⟩ : ∃ w2, (w1.alloc (.cells #[.int .i64 2, .int .i64 0, .int .i64 0, .string ⟨#[]⟩, .string ⟨#[]⟩, .int .i64 ck, .int .i64 cn, .string cs] 51)).drew = w2 := ⟨_, rfl⟩
   have hb2 : Below w1.heap.size w1 w2 := by rw [<- hw2]; exact ((Below.refl _ _).alloc (Nat.le_refl _) _).drew
   have hE2 := HE1.out.new k hb2
   have t12 := hE2.t1
   have tf2 := hE2.tf 1
   have j0 : w2.cell? ⟨w1.heap.size, 0, none⟩ = some (.int .i64 2) := by rw [<- hw2]; exact za _ _ _ 0
   have j1 : w2.cell? ⟨w1.heap.size, 1, none⟩ = some (.int .i64 0) := by rw [<- hw2]; exact za _ _ _ 1
   have j2 : w2.cell? ⟨w1.heap.size, 2, none⟩ = some (.int .i64 0) := by rw [<- hw2]; exact za _ _ _ 2
   have j3 : w2.cell? ⟨w1.heap.size, 3, none⟩ = some (.string ⟨#[]⟩) := by rw [<- hw2]; exact za _ _ _ 3
   have j4 : w2.cell? ⟨w1.heap.size, 4, none⟩ = some (.string ⟨#[]⟩) := by rw [<- hw2]; exact za _ _ _ 4
   have j5 : w2.cell? ⟨w1.heap.size, 5, none⟩ = some (.int .i64 ck) := by rw [<- hw2]; exact za _ _ _ 5
   have j6 : w2.cell? ⟨w1.heap.size, 6, none⟩ = some (.int .i64 cn) := by rw [<- hw2]; exact za _ _ _ 6
   have j7 : w2.cell? ⟨w1.heap.size, 7, none⟩ = some (.string cs) := by rw [<- hw2]; exact za _ _ _ 7
   obtain ⟨p1, hp1⟩ : ∃ p1 : Nat, p1 = pc + 1 := ⟨_, rfl⟩
   have hp1i : (pc : Int) + 1 = (p1 : Int) := by omega
   have hHP := HI.out.hl
   have hSP := HI.out.sl
   have HLEN := Lib.hid (show len + 3 <= 60000 from by have h1 := HI.out.eng.heap.size; rw [flat_len] at h1; omega)
   have HE2 := Lib.hid hE2
   have HP1 := Lib.hid hp1
   rw [hw2]
   clear hw2 hb2 hE2 g0 t0 t1 tf1 e0 e1 e2 e3 e4 e5 e6 e7 fc3 hp1
   go_upto_region 4 with fail
   obtain ⟨w3, hw3⟩ : ∃ w3, w2.setCell ⟨c.T, 1, none⟩ (.int .i64 p1) = w3 := ⟨_, rfl⟩
   have hnT : w1.heap.size ≠ c.T := by omega
   have hE3 : Eng c w3 (p1 : Int) st hp fu A len cap v := by rw [<- hw3]; exact HE2.out.setPc k p1
   have l0 : w3.cell? ⟨w1.heap.size, 0, none⟩ = some (.int .i64 2) := by rw [<- hw3]; exact set_otherB j0 hnT
   have l1 : w3.cell? ⟨w1.heap.size, 1, none⟩ = some (.int .i64 0) := by rw [<- hw3]; exact set_otherB j1 hnT
   have l2 : w3.cell? ⟨w1.heap.size, 2, none⟩ = some (.int .i64 0) := by rw [<- hw3]; exact set_otherB j2 hnT
   have l3 : w3.cell? ⟨w1.heap.size, 3, none⟩ = some (.string ⟨#[]⟩) := by rw [<- hw3]; exact set_otherB j3 hnT
   have l4 : w3.cell? ⟨w1.heap.size, 4, none⟩ = some (.string ⟨#[]⟩) := by rw [<- hw3]; exact set_otherB j4 hnT
   have l5 : w3.cell? ⟨w1.heap.size, 5, none⟩ = some (.int .i64 ck) := by rw [<- hw3]; exact set_otherB j5 hnT
   have l6 : w3.cell? ⟨w1.heap.size, 6, none⟩ = some (.int .i64 cn) := by rw [<- hw3]; exact set_otherB j6 hnT
   have l7 : w3.cell? ⟨w1.heap.size, 7, none⟩ = some (.string cs) := by rw [<- hw3]; exact set_otherB j7 hnT
   have HE3 := Lib.hid hE3
   rw [hw3]
   clear hw3 hE3 j0 j1 j2 j3 j4 j5 j6 j7 t12 tf2
   go_wp2_with fail
   refine (one_const k HE3.out (by omega) ⟨ck, cn, cs⟩).mono ?_
   rintro e w4 ⟨rfl, A4, len4, cap4, v4, hE4⟩
   have HE4 := Lib.hid hE4
   clear hE4
   go_wp2_with fail
   go_roundg (nC - p1)
   case rel =>
    have hpp := HP1.out
    try subst hpp
    exact ⟨_, _, _, _, _, _, _, _, rfl, HI.out.next HWD.out HLW.out HST.out HKK.out HE4.out (Or.inl rfl)⟩
   case measure => have h1 := HG.out; have h2 := (step_sizes HST.out).2.1; have h3 := HP1.out; simp only at h2; omega
  | @local_ _ _ _ li lw hC0 hw =>
   clear kk
   have HLI := Lib.hid hw
   clear hw
   have hlc := lt_of_get hC0
   have hlc2 : pc < nC := by omega
   obtain ⟨bI, oI, hAI, hbI, hnI, d0, d1, d2, d3, d4, d5, d6, d7⟩ := (HCODE.out wr HI.out.eng.tur).2.2.nth hC0
   simp only [localI, noW] at d0 d1 d2 d3 d4 d5 d6 d7
   obtain ⟨rfl, rfl⟩ : bC = bI /\ oC = oI := by simpa using hAI
   have hpn : (pc : Int) < (nC : Int) := by omega
   have hpc2 : (pc : Int) < (cC : Int) := by omega
   have hp0 : (0 : Int) <= (pc : Int) := Int.natCast_nonneg _
   have hEr := HI.out.eng
   have KT := Lib.hid (show ∀ W : World, Below wr.heap.size wr W -> Calls Tryz.prog 50 #[.pointer (some ⟨c.G, 0, none⟩)] W (fun e w' => e = .returned (.pointer (some ⟨c.T, 0, none⟩)) /\ Below W.heap.size W w') from fun W hW => top_b (HI.out.eng.new k hW).g5 k.ca1 k.ca2)
   have HGL := Lib.hid (hEr.ltG k)
   have hTr := hEr.ltT k
   clear hAI hEr hC0
   go_wp2_with fail
   refine (KT.out _ (Below.refl _ _)).mono ?_
   rintro e w1 ⟨rfl, hb1⟩
   have hE1 := HI.out.eng.new k hb1
   have g0 := hE1.g0
   rw [HFE.out] at g0
   have t0 := hE1.t0
   have t1 := hE1.t1
   have tf1 := hE1.tf 1
   have e0 := (hb1.cell (p := ⟨bC, oC + pc * 8, none⟩) hbI).trans d0
   have e1 := (hb1.cell (p := ⟨bC, oC + pc * 8 + 1, none⟩) hbI).trans d1
   have e2 := (hb1.cell (p := ⟨bC, oC + pc * 8 + 2, none⟩) hbI).trans d2
   have e3 := (hb1.cell (p := ⟨bC, oC + pc * 8 + 3, none⟩) hbI).trans d3
   have e4 := (hb1.cell (p := ⟨bC, oC + pc * 8 + 4, none⟩) hbI).trans d4
   have e5 := (hb1.cell (p := ⟨bC, oC + pc * 8 + 5, none⟩) hbI).trans d5
   have e6 := (hb1.cell (p := ⟨bC, oC + pc * 8 + 6, none⟩) hbI).trans d6
   have e7 := (hb1.cell (p := ⟨bC, oC + pc * 8 + 7, none⟩) hbI).trans d7
   have fc3 := (HCODE.out w1 hE1.tur).2.1
   have hbF := (HCODE.out w1 hE1.tur).1
   have HE1 := Lib.hid hE1
   have hT1 := hE1.ltT k
   have hG1 := hE1.ltG k
   have hs1 := hb1.size
   have hbC1 : bC < w1.heap.size := Nat.lt_of_lt_of_le hbI hs1
   clear hE1 hb1 d0 d1 d2 d3 d4 d5 d6 d7
   go_wp2_with fail
   go_region
   obtain ⟨w2, hw2⟩ : ∃ w2, (w1.alloc (.cells #[.int .i64 3, .int .i64 li, .int .i64 0, .string ⟨#[]⟩, .string ⟨#[]⟩, .int .i64 0, .int .i64 0, .string ⟨#[]⟩] 51)).drew = w2 := ⟨_, rfl⟩
   have hb2 : Below w1.heap.size w1 w2 := by rw [<- hw2]; exact ((Below.refl _ _).alloc (Nat.le_refl _) _).drew
   have hE2 := HE1.out.new k hb2
   have t12 := hE2.t1
   have tf2 := hE2.tf 1
   have j0 : w2.cell? ⟨w1.heap.size, 0, none⟩ = some (.int .i64 3) := by rw [<- hw2]; exact za _ _ _ 0
   have j1 : w2.cell? ⟨w1.heap.size, 1, none⟩ = some (.int .i64 li) := by rw [<- hw2]; exact za _ _ _ 1
   have j2 : w2.cell? ⟨w1.heap.size, 2, none⟩ = some (.int .i64 0) := by rw [<- hw2]; exact za _ _ _ 2
   have j3 : w2.cell? ⟨w1.heap.size, 3, none⟩ = some (.string ⟨#[]⟩) := by rw [<- hw2]; exact za _ _ _ 3
   have j4 : w2.cell? ⟨w1.heap.size, 4, none⟩ = some (.string ⟨#[]⟩) := by rw [<- hw2]; exact za _ _ _ 4
   have j5 : w2.cell? ⟨w1.heap.size, 5, none⟩ = some (.int .i64 0) := by rw [<- hw2]; exact za _ _ _ 5
   have j6 : w2.cell? ⟨w1.heap.size, 6, none⟩ = some (.int .i64 0) := by rw [<- hw2]; exact za _ _ _ 6
   have j7 : w2.cell? ⟨w1.heap.size, 7, none⟩ = some (.string ⟨#[]⟩) := by rw [<- hw2]; exact za _ _ _ 7
   obtain ⟨p1, hp1⟩ : ∃ p1 : Nat, p1 = pc + 1 := ⟨_, rfl⟩
   have hp1i : (pc : Int) + 1 = (p1 : Int) := by omega
   have hHP := HI.out.hl
   have hSP := HI.out.sl
   have HLEN := Lib.hid (show len + 3 <= 60000 from by have h1 := HI.out.eng.heap.size; rw [flat_len] at h1; omega)
   have HE2 := Lib.hid hE2
   have HP1 := Lib.hid hp1
   rw [hw2]
   clear hw2 hb2 hE2 g0 t0 t1 tf1 e0 e1 e2 e3 e4 e5 e6 e7 fc3 hp1
   go_upto_region 4 with fail
   obtain ⟨w3, hw3⟩ : ∃ w3, w2.setCell ⟨c.T, 1, none⟩ (.int .i64 p1) = w3 := ⟨_, rfl⟩
   have hnT : w1.heap.size ≠ c.T := by omega
   have hE3 : Eng c w3 (p1 : Int) st hp fu A len cap v := by rw [<- hw3]; exact HE2.out.setPc k p1
   have l0 : w3.cell? ⟨w1.heap.size, 0, none⟩ = some (.int .i64 3) := by rw [<- hw3]; exact set_otherB j0 hnT
   have l1 : w3.cell? ⟨w1.heap.size, 1, none⟩ = some (.int .i64 li) := by rw [<- hw3]; exact set_otherB j1 hnT
   have l2 : w3.cell? ⟨w1.heap.size, 2, none⟩ = some (.int .i64 0) := by rw [<- hw3]; exact set_otherB j2 hnT
   have l3 : w3.cell? ⟨w1.heap.size, 3, none⟩ = some (.string ⟨#[]⟩) := by rw [<- hw3]; exact set_otherB j3 hnT
   have l4 : w3.cell? ⟨w1.heap.size, 4, none⟩ = some (.string ⟨#[]⟩) := by rw [<- hw3]; exact set_otherB j4 hnT
   have l5 : w3.cell? ⟨w1.heap.size, 5, none⟩ = some (.int .i64 0) := by rw [<- hw3]; exact set_otherB j5 hnT
   have l6 : w3.cell? ⟨w1.heap.size, 6, none⟩ = some (.int .i64 0) := by rw [<- hw3]; exact set_otherB j6 hnT
   have l7 : w3.cell? ⟨w1.heap.size, 7, none⟩ = some (.string ⟨#[]⟩) := by rw [<- hw3]; exact set_otherB j7 hnT
   have HE3 := Lib.hid hE3
   rw [hw3]
   clear hw3 hE3 j0 j1 j2 j3 j4 j5 j6 j7 t12 tf2
   go_wp2_with fail
   refine (one_local k HE3.out (by omega) li lw HLI.out).mono ?_
   rintro e w4 ⟨rfl, A4, len4, cap4, v4, hE4⟩
   have HE4 := Lib.hid hE4
   clear hE4
   go_wp2_with fail
   go_roundg (nC - p1)
   case rel =>
    have hpp := HP1.out
    try subst hpp
    exact ⟨_, _, _, _, _, _, _, _, rfl, HI.out.next HWD.out HLW.out HST.out HKK.out HE4.out (Or.inl rfl)⟩
   case measure => have h1 := HG.out; have h2 := (step_sizes HST.out).2.1; have h3 := HP1.out; simp only at h2; omega
  | @jump _ _ _ m hC0 hn =>
   clear kk
   have HMN := Lib.hid hn
   clear hn
   have hlc := lt_of_get hC0
   have hlc2 : pc < nC := by omega
   obtain ⟨bI, oI, hAI, hbI, hnI, d0, d1, d2, d3, d4, d5, d6, d7⟩ := (HCODE.out wr HI.out.eng.tur).2.2.nth hC0
   simp only [jumpI, noW] at d0 d1 d2 d3 d4 d5 d6 d7
   obtain ⟨rfl, rfl⟩ : bC = bI /\ oC = oI := by simpa using hAI
   have hpn : (pc : Int) < (nC : Int) := by omega
   have hpc2 : (pc : Int) < (cC : Int) := by omega
   have hp0 : (0 : Int) <= (pc : Int) := Int.natCast_nonneg _
   have hEr := HI.out.eng
   have KT := Lib.hid (show ∀ W : World, Below wr.heap.size wr W -> Calls Tryz.prog 50 #[.pointer (some ⟨c.G, 0, none⟩)] W (fun e w' => e = .returned (.pointer (some ⟨c.T, 0, none⟩)) /\ Below W.heap.size W w') from fun W hW => top_b (HI.out.eng.new k hW).g5 k.ca1 k.ca2)
   have HGL := Lib.hid (hEr.ltG k)
   have hTr := hEr.ltT k
   clear hAI hEr hC0
   go_wp2_with fail
   refine (KT.out _ (Below.refl _ _)).mono ?_
   rintro e w1 ⟨rfl, hb1⟩
   have hE1 := HI.out.eng.new k hb1
   have g0 := hE1.g0
   rw [HFE.out] at g0
   have t0 := hE1.t0
   have t1 := hE1.t1
   have tf1 := hE1.tf 1
   have e0 := (hb1.cell (p := ⟨bC, oC + pc * 8, none⟩) hbI).trans d0
   have e1 := (hb1.cell (p := ⟨bC, oC + pc * 8 + 1, none⟩) hbI).trans d1
   have e2 := (hb1.cell (p := ⟨bC, oC + pc * 8 + 2, none⟩) hbI).trans d2
   have e3 := (hb1.cell (p := ⟨bC, oC + pc * 8 + 3, none⟩) hbI).trans d3
   have e4 := (hb1.cell (p := ⟨bC, oC + pc * 8 + 4, none⟩) hbI).trans d4
   have e5 := (hb1.cell (p := ⟨bC, oC + pc * 8 + 5, none⟩) hbI).trans d5
   have e6 := (hb1.cell (p := ⟨bC, oC + pc * 8 + 6, none⟩) hbI).trans d6
   have e7 := (hb1.cell (p := ⟨bC, oC + pc * 8 + 7, none⟩) hbI).trans d7
   have fc3 := (HCODE.out w1 hE1.tur).2.1
   have hbF := (HCODE.out w1 hE1.tur).1
   have HE1 := Lib.hid hE1
   have hT1 := hE1.ltT k
   have hG1 := hE1.ltG k
   have hs1 := hb1.size
   have hbC1 : bC < w1.heap.size := Nat.lt_of_lt_of_le hbI hs1
   clear hE1 hb1 d0 d1 d2 d3 d4 d5 d6 d7
   go_wp2_with fail
   go_region
   obtain ⟨w2, hw2⟩ : ∃ w2, (w1.alloc (.cells #[.int .i64 15, .int .i64 m, .int .i64 0, .string ⟨#[]⟩, .string ⟨#[]⟩, .int .i64 0, .int .i64 0, .string ⟨#[]⟩] 51)).drew = w2 := ⟨_, rfl⟩
   have hb2 : Below w1.heap.size w1 w2 := by rw [<- hw2]; exact ((Below.refl _ _).alloc (Nat.le_refl _) _).drew
   have hE2 := HE1.out.new k hb2
   have t12 := hE2.t1
   have tf2 := hE2.tf 1
   have j0 : w2.cell? ⟨w1.heap.size, 0, none⟩ = some (.int .i64 15) := by rw [<- hw2]; exact za _ _ _ 0
   have j1 : w2.cell? ⟨w1.heap.size, 1, none⟩ = some (.int .i64 m) := by rw [<- hw2]; exact za _ _ _ 1
   have j2 : w2.cell? ⟨w1.heap.size, 2, none⟩ = some (.int .i64 0) := by rw [<- hw2]; exact za _ _ _ 2
   have j3 : w2.cell? ⟨w1.heap.size, 3, none⟩ = some (.string ⟨#[]⟩) := by rw [<- hw2]; exact za _ _ _ 3
   have j4 : w2.cell? ⟨w1.heap.size, 4, none⟩ = some (.string ⟨#[]⟩) := by rw [<- hw2]; exact za _ _ _ 4
   have j5 : w2.cell? ⟨w1.heap.size, 5, none⟩ = some (.int .i64 0) := by rw [<- hw2]; exact za _ _ _ 5
   have j6 : w2.cell? ⟨w1.heap.size, 6, none⟩ = some (.int .i64 0) := by rw [<- hw2]; exact za _ _ _ 6
   have j7 : w2.cell? ⟨w1.heap.size, 7, none⟩ = some (.string ⟨#[]⟩) := by rw [<- hw2]; exact za _ _ _ 7
   obtain ⟨p1, hp1⟩ : ∃ p1 : Nat, p1 = pc + 1 := ⟨_, rfl⟩
   have hp1i : (pc : Int) + 1 = (p1 : Int) := by omega
   have hHP := HI.out.hl
   have hSP := HI.out.sl
   have HLEN := Lib.hid (show len + 3 <= 60000 from by have h1 := HI.out.eng.heap.size; rw [flat_len] at h1; omega)
   have HE2 := Lib.hid hE2
   have HP1 := Lib.hid hp1
   rw [hw2]
   clear hw2 hb2 hE2 g0 t0 t1 tf1 e0 e1 e2 e3 e4 e5 e6 e7 fc3 hp1
   go_upto_region 4 with fail
   obtain ⟨w3, hw3⟩ : ∃ w3, w2.setCell ⟨c.T, 1, none⟩ (.int .i64 p1) = w3 := ⟨_, rfl⟩
   have hnT : w1.heap.size ≠ c.T := by omega
   have hE3 : Eng c w3 (p1 : Int) st hp fu A len cap v := by rw [<- hw3]; exact HE2.out.setPc k p1
   have l0 : w3.cell? ⟨w1.heap.size, 0, none⟩ = some (.int .i64 15) := by rw [<- hw3]; exact set_otherB j0 hnT
   have l1 : w3.cell? ⟨w1.heap.size, 1, none⟩ = some (.int .i64 m) := by rw [<- hw3]; exact set_otherB j1 hnT
   have l2 : w3.cell? ⟨w1.heap.size, 2, none⟩ = some (.int .i64 0) := by rw [<- hw3]; exact set_otherB j2 hnT
   have l3 : w3.cell? ⟨w1.heap.size, 3, none⟩ = some (.string ⟨#[]⟩) := by rw [<- hw3]; exact set_otherB j3 hnT
   have l4 : w3.cell? ⟨w1.heap.size, 4, none⟩ = some (.string ⟨#[]⟩) := by rw [<- hw3]; exact set_otherB j4 hnT
   have l5 : w3.cell? ⟨w1.heap.size, 5, none⟩ = some (.int .i64 0) := by rw [<- hw3]; exact set_otherB j5 hnT
   have l6 : w3.cell? ⟨w1.heap.size, 6, none⟩ = some (.int .i64 0) := by rw [<- hw3]; exact set_otherB j6 hnT
   have l7 : w3.cell? ⟨w1.heap.size, 7, none⟩ = some (.string ⟨#[]⟩) := by rw [<- hw3]; exact set_otherB j7 hnT
   have HE3 := Lib.hid hE3
   rw [hw3]
   clear hw3 hE3 j0 j1 j2 j3 j4 j5 j6 j7 t12 tf2
   go_wp2_with fail
   refine (one_jump k HE3.out m).mono ?_
   rintro e w4 ⟨rfl, A4, len4, cap4, v4, hE4⟩
   have HE4 := Lib.hid hE4
   clear hE4
   go_wp2_with fail
   go_roundg (nC - m)
   case rel =>
    have hpp := HP1.out
    try subst hpp
    exact ⟨_, _, _, _, _, _, _, _, rfl, HI.out.next HWD.out HLW.out HST.out HKK.out HE4.out (Or.inl rfl)⟩
   case measure => have h1 := HG.out; have h2 := (step_sizes HST.out).2.1; have h3 := HP1.out; simp only at h2; omega
  | @else_ _ st2 _ m x hC0 hn =>
   clear kk
   have HMN := Lib.hid hn
   clear hn
   have hlc := lt_of_get hC0
   have hlc2 : pc < nC := by omega
   obtain ⟨bI, oI, hAI, hbI, hnI, d0, d1, d2, d3, d4, d5, d6, d7⟩ := (HCODE.out wr HI.out.eng.tur).2.2.nth hC0
   simp only [elseI, noW] at d0 d1 d2 d3 d4 d5 d6 d7
   obtain ⟨rfl, rfl⟩ : bC = bI /\ oC = oI := by simpa using hAI
   have hpn : (pc : Int) < (nC : Int) := by omega
   have hpc2 : (pc : Int) < (cC : Int) := by omega
   have hp0 : (0 : Int) <= (pc : Int) := Int.natCast_nonneg _
   have hEr := HI.out.eng
   have KT := Lib.hid (show ∀ W : World, Below wr.heap.size wr W -> Calls Tryz.prog 50 #[.pointer (some ⟨c.G, 0, none⟩)] W (fun e w' => e = .returned (.pointer (some ⟨c.T, 0, none⟩)) /\ Below W.heap.size W w') from fun W hW => top_b (HI.out.eng.new k hW).g5 k.ca1 k.ca2)
   have HGL := Lib.hid (hEr.ltG k)
   have hTr := hEr.ltT k
   clear hAI hEr hC0
   go_wp2_with fail
   refine (KT.out _ (Below.refl _ _)).mono ?_
   rintro e w1 ⟨rfl, hb1⟩
   have hE1 := HI.out.eng.new k hb1
   have g0 := hE1.g0
   rw [HFE.out] at g0
   have t0 := hE1.t0
   have t1 := hE1.t1
   have tf1 := hE1.tf 1
   have e0 := (hb1.cell (p := ⟨bC, oC + pc * 8, none⟩) hbI).trans d0
   have e1 := (hb1.cell (p := ⟨bC, oC + pc * 8 + 1, none⟩) hbI).trans d1
   have e2 := (hb1.cell (p := ⟨bC, oC + pc * 8 + 2, none⟩) hbI).trans d2
   have e3 := (hb1.cell (p := ⟨bC, oC + pc * 8 + 3, none⟩) hbI).trans d3
   have e4 := (hb1.cell (p := ⟨bC, oC + pc * 8 + 4, none⟩) hbI).trans d4
   have e5 := (hb1.cell (p := ⟨bC, oC + pc * 8 + 5, none⟩) hbI).trans d5
   have e6 := (hb1.cell (p := ⟨bC, oC + pc * 8 + 6, none⟩) hbI).trans d6
   have e7 := (hb1.cell (p := ⟨bC, oC + pc * 8 + 7, none⟩) hbI).trans d7
   have fc3 := (HCODE.out w1 hE1.tur).2.1
   have hbF := (HCODE.out w1 hE1.tur).1
   have HE1 := Lib.hid hE1
   have hT1 := hE1.ltT k
   have hG1 := hE1.ltG k
   have hs1 := hb1.size
   have hbC1 : bC < w1.heap.size := Nat.lt_of_lt_of_le hbI hs1
   clear hE1 hb1 d0 d1 d2 d3 d4 d5 d6 d7
   go_wp2_with fail
   go_region
   obtain ⟨w2, hw2⟩ : ∃ w2, (w1.alloc (.cells #[.int .i64 16, .int .i64 m, .int .i64 0, .string ⟨#[]⟩, .string ⟨#[]⟩, .int .i64 0, .int .i64 0, .string ⟨#[]⟩] 51)).drew = w2 := ⟨_, rfl⟩
   have hb2 : Below w1.heap.size w1 w2 := by rw [<- hw2]; exact ((Below.refl _ _).alloc (Nat.le_refl _) _).drew
   have hE2 := HE1.out.new k hb2
   have t12 := hE2.t1
   have tf2 := hE2.tf 1
   have j0 : w2.cell? ⟨w1.heap.size, 0, none⟩ = some (.int .i64 16) := by rw [<- hw2]; exact za _ _ _ 0
   have j1 : w2.cell? ⟨w1.heap.size, 1, none⟩ = some (.int .i64 m) := by rw [<- hw2]; exact za _ _ _ 1
   have j2 : w2.cell? ⟨w1.heap.size, 2, none⟩ = some (.int .i64 0) := by rw [<- hw2]; exact za _ _ _ 2
   have j3 : w2.cell? ⟨w1.heap.size, 3, none⟩ = some (.string ⟨#[]⟩) := by rw [<- hw2]; exact za _ _ _ 3
   have j4 : w2.cell? ⟨w1.heap.size, 4, none⟩ = some (.string ⟨#[]⟩) := by rw [<- hw2]; exact za _ _ _ 4
   have j5 : w2.cell? ⟨w1.heap.size, 5, none⟩ = some (.int .i64 0) := by rw [<- hw2]; exact za _ _ _ 5
   have j6 : w2.cell? ⟨w1.heap.size, 6, none⟩ = some (.int .i64 0) := by rw [<- hw2]; exact za _ _ _ 6
   have j7 : w2.cell? ⟨w1.heap.size, 7, none⟩ = some (.string ⟨#[]⟩) := by rw [<- hw2]; exact za _ _ _ 7
   obtain ⟨p1, hp1⟩ : ∃ p1 : Nat, p1 = pc + 1 := ⟨_, rfl⟩
   have hp1i : (pc : Int) + 1 = (p1 : Int) := by omega
   have hHP := HI.out.hl
   have hSP := HI.out.sl
   have HLEN := Lib.hid (show len + 3 <= 60000 from by have h1 := HI.out.eng.heap.size; rw [flat_len] at h1; omega)
   have HE2 := Lib.hid hE2
   have HP1 := Lib.hid hp1
   rw [hw2]
   clear hw2 hb2 hE2 g0 t0 t1 tf1 e0 e1 e2 e3 e4 e5 e6 e7 fc3 hp1
   go_upto_region 4 with fail
   obtain ⟨w3, hw3⟩ : ∃ w3, w2.setCell ⟨c.T, 1, none⟩ (.int .i64 p1) = w3 := ⟨_, rfl⟩
   have hnT : w1.heap.size ≠ c.T := by omega
   have hE3 : Eng c w3 (p1 : Int) (st2 ++ [x]) hp fu A len cap v := by rw [<- hw3]; exact HE2.out.setPc k p1
   have l0 : w3.cell? ⟨w1.heap.size, 0, none⟩ = some (.int .i64 16) := by rw [<- hw3]; exact set_otherB j0 hnT
   have l1 : w3.cell? ⟨w1.heap.size, 1, none⟩ = some (.int .i64 m) := by rw [<- hw3]; exact set_otherB j1 hnT
   have l2 : w3.cell? ⟨w1.heap.size, 2, none⟩ = some (.int .i64 0) := by rw [<- hw3]; exact set_otherB j2 hnT
   have l3 : w3.cell? ⟨w1.heap.size, 3, none⟩ = some (.string ⟨#[]⟩) := by rw [<- hw3]; exact set_otherB j3 hnT
   have l4 : w3.cell? ⟨w1.heap.size, 4, none⟩ = some (.string ⟨#[]⟩) := by rw [<- hw3]; exact set_otherB j4 hnT
   have l5 : w3.cell? ⟨w1.heap.size, 5, none⟩ = some (.int .i64 0) := by rw [<- hw3]; exact set_otherB j5 hnT
   have l6 : w3.cell? ⟨w1.heap.size, 6, none⟩ = some (.int .i64 0) := by rw [<- hw3]; exact set_otherB j6 hnT
   have l7 : w3.cell? ⟨w1.heap.size, 7, none⟩ = some (.string ⟨#[]⟩) := by rw [<- hw3]; exact set_otherB j7 hnT
   have HE3 := Lib.hid hE3
   rw [hw3]
   clear hw3 hE3 j0 j1 j2 j3 j4 j5 j6 j7 t12 tf2
   go_wp2_with fail
   refine (one_else k m HE3.out (by omega)).mono ?_
   rintro e w4 ⟨rfl, A4, len4, cap4, v4, hE4⟩
   obtain ⟨pn, hpn⟩ : ∃ pn : Nat, (if ((x.k == 2) && (x.n == 0)) = true then m else p1) = pn := ⟨_, rfl⟩
   have hE5 : Eng c w4 (pn : Int) st2 hp fu A4 len4 cap4 v4 := by
    rw [<- hpn]
    cases hq : ((x.k == 2) && (x.n == 0))
    ·
     rw [hq] at hE4; exact hE4
    rw [hq] at hE4; exact hE4
   have HE4 := Lib.hid hE5
   have HPN := Lib.hid hpn
   clear hE4 hE5 hpn
   go_wp2_with fail
   go_roundg (nC - pn)
   case rel =>
    have hpp := HP1.out
    subst hpp
    have hpn := HPN.out
    subst hpn
    exact ⟨_, _, _, _, _, _, _, _, rfl, HI.out.next HWD.out HLW.out HST.out HKK.out HE4.out (Or.inl rfl)⟩
   case measure => have h1 := HG.out; have h2 := (step_sizes HST.out).2.1; have h3 := HP1.out; have h4 := HPN.out; subst h3; subst h4; simp only at h2; omega
  | @prim _ st2 _ s n l pw hp2 hC0 hl hn hr =>
   clear kk
   have hmem := List.mem_of_getElem? hC0
   have har := (prim_ar (prims_of c.x hx true 0 _ _ hmem).1).1
   have HLW2 := Lib.hid (show ∀ y ∈ l, WIn hp y from fun y hy => HI.out.ok.st y (List.mem_append_right _ hy))
   have HAR := Lib.hid (show arP s = l.length by rw [har, hl])
   have HLN := Lib.hid hl
   have HL1 := Lib.hid (show 1 <= l.length by omega)
   have HRR := Lib.hid hr
   clear hl hn hr hmem har
   have hlc := lt_of_get hC0
   have hlc2 : pc < nC := by omega
   obtain ⟨bI, oI, hAI, hbI, hnI, d0, d1, d2, d3, d4, d5, d6, d7⟩ := (HCODE.out wr HI.out.eng.tur).2.2.nth hC0
   simp only [primI, noW] at d0 d1 d2 d3 d4 d5 d6 d7
   obtain ⟨rfl, rfl⟩ : bC = bI /\ oC = oI := by simpa using hAI
   have hpn : (pc : Int) < (nC : Int) := by omega
   have hpc2 : (pc : Int) < (cC : Int) := by omega
   have hp0 : (0 : Int) <= (pc : Int) := Int.natCast_nonneg _
   have hEr := HI.out.eng
   have KT := Lib.hid (show ∀ W : World, Below wr.heap.size wr W -> Calls Tryz.prog 50 #[.pointer (some ⟨c.G, 0, none⟩)] W (fun e w' => e = .returned (.pointer (some ⟨c.T, 0, none⟩)) /\ Below W.heap.size W w') from fun W hW => top_b (HI.out.eng.new k hW).g5 k.ca1 k.ca2)
   have HGL := Lib.hid (hEr.ltG k)
   have hTr := hEr.ltT k
   clear hAI hEr hC0
   go_wp2_with fail
   refine (KT.out _ (Below.refl _ _)).mono ?_
   rintro e w1 ⟨rfl, hb1⟩
   have hE1 := HI.out.eng.new k hb1
   have g0 := hE1.g0
   rw [HFE.out] at g0
   have t0 := hE1.t0
   have t1 := hE1.t1
   have tf1 := hE1.tf 1
   have e0 := (hb1.cell (p := ⟨bC, oC + pc * 8, none⟩) hbI).trans d0
   have e1 := (hb1.cell (p := ⟨bC, oC + pc * 8 + 1, none⟩) hbI).trans d1
   have e2 := (hb1.cell (p := ⟨bC, oC + pc * 8 + 2, none⟩) hbI).trans d2
   have e3 := (hb1.cell (p := ⟨bC, oC + pc * 8 + 3, none⟩) hbI).trans d3
   have e4 := (hb1.cell (p := ⟨bC, oC + pc * 8 + 4, none⟩) hbI).trans d4
   have e5 := (hb1.cell (p := ⟨bC, oC + pc * 8 + 5, none⟩) hbI).trans d5
   have e6 := (hb1.cell (p := ⟨bC, oC + pc * 8 + 6, none⟩) hbI).trans d6
   have e7 := (hb1.cell (p := ⟨bC, oC + pc * 8 + 7, none⟩) hbI).trans d7
   have fc3 := (HCODE.out w1 hE1.tur).2.1
   have hbF := (HCODE.out w1 hE1.tur).1
   have HE1 := Lib.hid hE1
   have hT1 := hE1.ltT k
   have hG1 := hE1.ltG k
   have hs1 := hb1.size
   have hbC1 : bC < w1.heap.size := Nat.lt_of_lt_of_le hbI hs1
   clear hE1 hb1 d0 d1 d2 d3 d4 d5 d6 d7
   go_wp2_with fail
   go_region
   obtain ⟨w2, hw2⟩ : ∃ w2, (w1.alloc (.cells #[.int .i64 18, .int .i64 n, .int .i64 0, .string s, .string ⟨#[]⟩, .int .i64 0, .int .i64 0, .string ⟨#[]⟩] 51)).drew = w2 := ⟨_, rfl⟩
   have hb2 : Below w1.heap.size w1 w2 := by rw [<- hw2]; exact ((Below.refl _ _).alloc (Nat.le_refl _) _).drew
   have hE2 := HE1.out.new k hb2
   have t12 := hE2.t1
   have tf2 := hE2.tf 1
   have j0 : w2.cell? ⟨w1.heap.size, 0, none⟩ = some (.int .i64 18) := by rw [<- hw2]; exact za _ _ _ 0
   have j1 : w2.cell? ⟨w1.heap.size, 1, none⟩ = some (.int .i64 n) := by rw [<- hw2]; exact za _ _ _ 1
   have j2 : w2.cell? ⟨w1.heap.size, 2, none⟩ = some (.int .i64 0) := by rw [<- hw2]; exact za _ _ _ 2
   have j3 : w2.cell? ⟨w1.heap.size, 3, none⟩ = some (.string s) := by rw [<- hw2]; exact za _ _ _ 3
   have j4 : w2.cell? ⟨w1.heap.size, 4, none⟩ = some (.string ⟨#[]⟩) := by rw [<- hw2]; exact za _ _ _ 4
   have j5 : w2.cell? ⟨w1.heap.size, 5, none⟩ = some (.int .i64 0) := by rw [<- hw2]; exact za _ _ _ 5
   have j6 : w2.cell? ⟨w1.heap.size, 6, none⟩ = some (.int .i64 0) := by rw [<- hw2]; exact za _ _ _ 6
   have j7 : w2.cell? ⟨w1.heap.size, 7, none⟩ = some (.string ⟨#[]⟩) := by rw [<- hw2]; exact za _ _ _ 7
   obtain ⟨p1, hp1⟩ : ∃ p1 : Nat, p1 = pc + 1 := ⟨_, rfl⟩
   have hp1i : (pc : Int) + 1 = (p1 : Int) := by omega
   have hHP := HI.out.hl
   have hSP := HI.out.sl
   have HLEN := Lib.hid (show len + 3 <= 60000 from by have h1 := HI.out.eng.heap.size; rw [flat_len] at h1; omega)
   have HE2 := Lib.hid hE2
   have HP1 := Lib.hid hp1
   rw [hw2]
   clear hw2 hb2 hE2 g0 t0 t1 tf1 e0 e1 e2 e3 e4 e5 e6 e7 fc3 hp1
   go_upto_region 4 with fail
   obtain ⟨w3, hw3⟩ : ∃ w3, w2.setCell ⟨c.T, 1, none⟩ (.int .i64 p1) = w3 := ⟨_, rfl⟩
   have hnT : w1.heap.size ≠ c.T := by omega
   have hE3 : Eng c w3 (p1 : Int) (st2 ++ l) hp fu A len cap v := by rw [<- hw3]; exact HE2.out.setPc k p1
   have l0 : w3.cell? ⟨w1.heap.size, 0, none⟩ = some (.int .i64 18) := by rw [<- hw3]; exact set_otherB j0 hnT
   have l1 : w3.cell? ⟨w1.heap.size, 1, none⟩ = some (.int .i64 n) := by rw [<- hw3]; exact set_otherB j1 hnT
   have l2 : w3.cell? ⟨w1.heap.size, 2, none⟩ = some (.int .i64 0) := by rw [<- hw3]; exact set_otherB j2 hnT
   have l3 : w3.cell? ⟨w1.heap.size, 3, none⟩ = some (.string s) := by rw [<- hw3]; exact set_otherB j3 hnT
   have l4 : w3.cell? ⟨w1.heap.size, 4, none⟩ = some (.string ⟨#[]⟩) := by rw [<- hw3]; exact set_otherB j4 hnT
   have l5 : w3.cell? ⟨w1.heap.size, 5, none⟩ = some (.int .i64 0) := by rw [<- hw3]; exact set_otherB j5 hnT
   have l6 : w3.cell? ⟨w1.heap.size, 6, none⟩ = some (.int .i64 0) := by rw [<- hw3]; exact set_otherB j6 hnT
   have l7 : w3.cell? ⟨w1.heap.size, 7, none⟩ = some (.string ⟨#[]⟩) := by rw [<- hw3]; exact set_otherB j7 hnT
   have HE3 := Lib.hid hE3
   rw [hw3]
   clear hw3 hE3 j0 j1 j2 j3 j4 j5 j6 j7 t12 tf2
   go_wp2_with fail
   refine (one_prim k HE3.out (by omega) HLEN.out HLW2.out HLN.out HAR.out HL1.out).mono ?_
   rintro e w4 hO
   rw [HRR.out] at hO
   obtain ⟨rfl, A4, len4, cap4, v4, hE4⟩ := hO
   have HE4 := Lib.hid hE4
   clear hE4
   go_wp2_with fail
   go_roundg (nC - p1)
   case rel =>
    have hpp := HP1.out
    subst hpp
    exact ⟨_, _, _, _, _, _, _, _, rfl, HI.out.next HWD.out HLW.out HST.out HKK.out HE4.out (Or.inl rfl)⟩
   case measure => have h1 := HG.out; have h2 := (step_sizes HST.out).2.1; have h3 := HP1.out; simp only at h2; omega
end
end Go.Proofs.YtfhbdlobhjegcaaGreatDoor
