import Derived.Test.YtjmeodadkjcmmaaDoorTopD
import Derived.Test.YtjmeodadkjcmmaaDoorGRef
namespace Go.Proofs.YtjmeodadkjcmmaaDoor
open Go.RowKit Go.ChangeShapes Go.WideShapes Go.Deep Go.ChangeAt
set_option linter.unusedVariables false
set_option maxRecDepth 20000
def HeadR (W0 w : World) (F : Nat) (e : Ending) (w' : World) : Option (ByteArray × List Dt) -> Prop
 | none => e = .returned (.tuple #[.string ⟨#[]⟩, .slice none 0 0]) /\ Below w.heap.size w w'
 | some (s, rest) => ∃ A c, e = .returned (.tuple #[.string s, .slice A rest.length c]) /\ DsAt W0 w' F A c rest /\ Below w.heap.size w w'
set_option maxHeartbeats 4000000 in
theorem topParts_any {W0 w : World} {F : Nat} (hW : Below W0.heap.size W0 w) (hF : W0.heap.size <= F) (d : Dt) (A : Option Addr) (c : Nat) (hd : DtIn W0 0 W0.heap.size [.int .i64 d.k, .int .i64 d.n, .string d.s, .slice A d.l.length c] d) (hlen : d.l.length <= 1048576) :
  Calls Tryd.prog 16 #[.agg #[.int .i64 d.k, .int .i64 d.n, .string d.s, .slice A d.l.length c]] w (fun e w' => HeadR W0 w F e w' (headF d)) := by
 obtain ⟨A1, c1, hA, hl⟩ := hd.items hW hF
 obtain ⟨rfl, rfl⟩ : A = A1 /\ c = c1 := by simpa using hA
 obtain ⟨N, hN⟩ : ∃ N, d.l.length = N := ⟨_, rfl⟩
 have HN := Lib.hid hN
 have HL := Lib.hid hl
 have HD := Lib.hid hd
 have HW := Lib.hid hW
 have HFF := Lib.hid hF
 have hcN : N <= c := by rw [<- hN]; exact hl.le
 have hcm := hl.cap_
 unfold maxLen at hcm
 rw [hN] at hlen ⊢
 clear hd hl hA hW hN hF
 by_cases hk4 : d.k = 4
 ·
  have hk5 : (d.k != 4) = false := by simpa using hk4
  by_cases h2 : N < 2
  ·
   rw [head_few (by rw [HN.out]; exact h2)]
   have hn2 : (N : Int) < 2 := by omega
   clear hk4
   go_enter Tryd.func16, Tryd.ntmps16
   go_wp2_with fail
   exact bodyPost_ret (v := .tuple #[.string ⟨#[]⟩, .slice none 0 0]) (by simp [results, Tryd.results16, go_sem]) rfl ⟨rfl, (Below.refl _ _).alloc (Nat.le_refl _) _⟩
  have hn2 : ¬ (N : Int) < 2 := by omega
  obtain ⟨h, rest, hl⟩ : ∃ h rest, d.l = h :: rest := by
   have := HN.out
   cases hl : d.l with
   | nil => rw [hl] at this; simp at this; omega
   | cons h rest => exact ⟨h, rest, rfl⟩
  have HLL := Lib.hid hl
  obtain ⟨b, o, A', c', rfl, hbw, hbF, d0, d1, d2, d3, hd, hi, ht⟩ := (show DsAt W0 w F A c (h :: rest) from hl ▸ HL.out).first HW.out HFF.out
  have hR : rest.length = N - 1 := by have := HN.out; rw [hl] at this; simp at this; omega
  have HT := Lib.hid ht
  have HR := Lib.hid hR
  have HK4 := Lib.hid hk4
  have hneB := World.new_ne w _ d0
  have hc1 : ¬ c = 1 := by omega
  have hi1 : (1 : Int) <= (N : Int) := by omega
  have hi2 : (N : Int) <= (c : Int) := by omega
  have hi3 : IntKind.i64.wrap 1 = 1 := IntWalk.i64_in _ (by omega)
  have hN0 : 0 < N := by omega
  have hN1 : (0 : Int) < (N : Int) := by omega
  obtain ⟨hk, hhk⟩ : ∃ hk, h.k = hk := ⟨_, rfl⟩
  have HHK := Lib.hid hhk
  rw [hhk] at d0
  clear hl hd hi ht hR hk4 hhk
  by_cases h3 : hk = 3
  ·
   rw [head_yes HLL.out (by rw [HR.out]; omega) HK4.out (by rw [HHK.out]; exact h3)]
   have h4 : (hk != 3) = false := by simpa using h3
   clear h3
   go_enter Tryd.func16, Tryd.ntmps16
   go_upto_region 3 with fail
   go_quiet (fail)
   go_wp2_with fail
   exact bodyPost_ret (v := .tuple #[.string h.s, .slice (some ⟨b, o + 4, none⟩) (N - 1) (c - 1)]) (by simp [results, Tryd.results16, go_sem]) rfl ⟨some ⟨b, o + 4, none⟩, c - 1, by rw [HR.out], HT.out.below (below_drewN ((Below.refl _ _).alloc (Nat.le_refl _) _) _), below_drewN ((Below.refl _ _).alloc (Nat.le_refl _) _) _⟩
  rw [head_not HLL.out (by rw [HHK.out]; exact h3)]
  have h4 : (hk != 3) = true := by simpa using h3
  clear h3
  go_enter Tryd.func16, Tryd.ntmps16
  go_wp2_with fail
  exact bodyPost_ret (v := .tuple #[.string ⟨#[]⟩, .slice none 0 0]) (by simp [results, Tryd.results16, go_sem]) rfl ⟨rfl, (Below.refl _ _).alloc (Nat.le_refl _) _⟩
 rw [head_kind hk4]
 have hk5 : (d.k != 4) = true := by simpa using hk4
 clear hk4
 go_enter Tryd.func16, Tryd.ntmps16
 go_wp2_with fail
 exact bodyPost_ret (v := .tuple #[.string ⟨#[]⟩, .slice none 0 0]) (by simp [results, Tryd.results16, go_sem]) rfl ⟨rfl, (Below.refl _ _).alloc (Nat.le_refl _) _⟩
theorem free_some {s : ByteArray} (h : freeB s = true) : (s.toList == []) = false := by
 cases hs : (s.toList == []) with
 | false => rfl
 | true =>
  exfalso
  have h0 : s.toList = [] := by simpa using hs
  rw [ByteArray.toList_eq] at h0
  unfold freeB at h
  rw [show s.data.toList = [] from h0] at h
  simp [show nameB [] = false from rfl] at h
theorem bind_free {d : Dt} (hk : d.k = 3) (hg : Good 40 d) : freeB d.s = bindB d := freeB_bind hk (hg.name hk)
set_option maxHeartbeats 4000000 in
theorem topName_any {W0 w : World} {F : Nat} (hW : Below W0.heap.size W0 w) (hF : W0.heap.size <= F) (B : Option Addr) (bc : Nat) (h : Dt) (rest : List Dt) (hds : DsAt W0 w F B bc (h :: rest)) (hgd : Good 40 h) (hlen : (h :: rest).length <= 1048576) :
  Calls Tryd.prog 19 #[.slice B (h :: rest).length bc] w (fun e w' => e = .returned (.string ((defT (h :: rest)).getD ⟨#[]⟩)) /\ Below w.heap.size w w') := by
 obtain ⟨p, q, A, c, rfl, hpw, hpF, e0, e1, e2, e3, hd, hi, ht⟩ := hds.first hW hF
 have HI := Lib.hid hi
 have HGD := Lib.hid hgd
 have HW := Lib.hid hW
 have HFF := Lib.hid hF
 have hcN : h.l.length <= c := hi.le
 have hcap := hds.le
 have hNlen := hgd.len
 have hhs := hgd.wide
 obtain ⟨M, hM⟩ : ∃ M, (h :: rest).length = M := ⟨_, rfl⟩
 have HML := Lib.hid (show rest.length = M - 1 by rw [<- hM, List.length_cons]; rfl)
 have hM1 : 1 <= M := by rw [<- hM]; simp
 rw [hM] at hlen hcap ⊢
 obtain ⟨N, hN⟩ : ∃ N, h.l.length = N := ⟨_, rfl⟩
 have HN := Lib.hid hN
 rw [hN] at e3 hcN hNlen
 obtain ⟨hk, hhk⟩ : ∃ hk, h.k = hk := ⟨_, rfl⟩
 have HHK := Lib.hid hhk
 rw [hhk] at e0
 obtain ⟨hs, hss⟩ : ∃ hs, h.s = hs := ⟨_, rfl⟩
 have HHS := Lib.hid hss
 rw [hss] at e2 hhs
 have hM0 : (0 : Int) <= (M : Int) := Int.natCast_nonneg _
 have hN0 : (0 : Int) <= (N : Int) := Int.natCast_nonneg _
 have hM2 : (0 : Int) < (M : Int) := by omega
 have hneP := World.new_ne w _ e0
 clear hds hd hi ht hgd hW hF hM hN hhk hss
 by_cases h4 : hk = 4
 ·
  subst h4
  by_cases h0 : N = 0
  ·
   subst h0
   have hnil : h.l = [] := List.eq_nil_of_length_eq_zero HN.out
   rw [def_nil HHK.out hnil]
   clear hnil
   go_enter Tryd.func19, Tryd.ntmps19
   go_wp2_with fail
   exact bodyPost_ret (v := .string ⟨#[]⟩) (by simp [results, Tryd.results19, go_sem]) rfl ⟨rfl, (Below.refl _ _).alloc (Nat.le_refl _) _⟩
  obtain ⟨g, gs, hl⟩ : ∃ g gs, h.l = g :: gs := by
   cases hl : h.l with
   | nil => rw [hl] at HN; exact absurd HN.out.symm h0
   | cons g gs => exact ⟨g, gs, rfl⟩
  have hN1 : (0 : Int) < (N : Int) := by omega
  have hN2 : ((N : Int) == 0) = false := by rw [beq_eq_false_iff_ne]; omega
  obtain ⟨b, o, A', c', rfl, hbw, hbF, d0, d1, d2, d3, hd, hi, ht⟩ := (show DsAt W0 w F A c (g :: gs) from hl ▸ HI.out).first HW.out HFF.out
  have hgg : Good 40 g := HGD.out.low (by rw [hl]; simp)
  have HGG := Lib.hid hgg
  have HDL := Lib.hid (def_list (m := rest) HHK.out hl)
  have hneB := World.new_ne w _ d0
  clear hi hd ht hgg hl h0
  by_cases hM3 : M < 2
  ·
   have hMi : (M : Int) < 2 := by omega
   rw [HDL.out, if_neg (fun e => by have := e.2; rw [HML.out] at this; omega)]
   go_enter Tryd.func19, Tryd.ntmps19
   go_wp2_with fail
   exact bodyPost_ret (v := .string ⟨#[]⟩) (by simp [results, Tryd.results19, go_sem]) rfl ⟨rfl, (Below.refl _ _).alloc (Nat.le_refl _) _⟩
  have hMi : ¬ (M : Int) < 2 := by omega
  by_cases gk : g.k = 3
  ·
   have gkb : (g.k != 3) = false := by rw [bne_eq_false_iff_eq]; exact gk
   have hfr := freeName_any g.s HGG.out.wide
   rw [bind_free gk HGG.out] at hfr
   have HFR := Lib.hid hfr
   cases hb : bindB g
   ·
    rw [HDL.out, if_neg (fun e => by rw [hb] at e; cases e.1)]
    rw [hb] at HFR
    clear hb gk hfr
    go_enter Tryd.func19, Tryd.ntmps19
    go_upto_region 8 with fail
    go_wp2_with fail
    refine (HFR.out _).mono ?_
    rintro e w3 ⟨rfl, hb3⟩
    have HB3 := Lib.hid (show Below w.heap.size w w3 from Below.trans (by (repeat' (first | with_reducible exact Below.refl _ _ | (with_reducible refine Below.setCell ?_ ?_ _) | (with_reducible refine Below.alloc ?_ ?_ _))); all_goals (try simp)) (hb3.mono (by simp)))
    clear hb3
    go_wp2_with fail
    exact bodyPost_ret (v := .string ⟨#[]⟩) (by simp [results, Tryd.results19, go_sem]) rfl ⟨rfl, HB3.out⟩
   rw [HDL.out, if_pos ⟨hb, by rw [HML.out]; omega⟩]
   rw [hb] at HFR
   clear hb gk hfr
   go_enter Tryd.func19, Tryd.ntmps19
   go_upto_region 8 with fail
   go_wp2_with fail
   refine (HFR.out _).mono ?_
   rintro e w3 ⟨rfl, hb3⟩
   have HB3 := Lib.hid (show Below w.heap.size w w3 from Below.trans (by (repeat' (first | with_reducible exact Below.refl _ _ | (with_reducible refine Below.setCell ?_ ?_ _) | (with_reducible refine Below.alloc ?_ ?_ _))); all_goals (try simp)) (hb3.mono (by simp)))
   have n2 : w3.cell? ⟨w.heap.size, 2, none⟩ = some (.string g.s) := (hb3.cell (p := ⟨w.heap.size, 2, none⟩) (by simp)).trans (by first | exact za _ _ _ 2 | simp)
   clear hb3
   go_wp2_with fail
   exact bodyPost_ret (v := .string g.s) (by simp [results, Tryd.results19, go_sem]) rfl ⟨rfl, HB3.out⟩
  have gkb : (g.k != 3) = true := by rw [bne_iff_ne]; exact gk
  rw [HDL.out, if_neg (fun e => by rw [bind_kind gk] at e; cases e.1)]
  clear gk
  go_enter Tryd.func19, Tryd.ntmps19
  go_wp2_with fail
  exact bodyPost_ret (v := .string ⟨#[]⟩) (by simp [results, Tryd.results19, go_sem]) rfl ⟨rfl, by (repeat' (first | with_reducible exact Below.refl _ _ | (with_reducible refine Below.setCell ?_ ?_ _) | (with_reducible refine Below.alloc ?_ ?_ _))); all_goals (try simp)⟩
 have HDN := Lib.hid (def_name (m := rest) (h := h) (by rw [HHK.out]; exact h4))
 have h4b : (hk == 4) = false := by rw [beq_eq_false_iff_ne]; exact h4
 clear h4
 by_cases hM3 : M = 2
 ·
  have hMi : ((M : Int) != 2) = false := by rw [bne_eq_false_iff_eq]; omega
  by_cases gk : hk = 3
  ·
   have gkb : (hk != 3) = false := by rw [bne_eq_false_iff_eq]; exact gk
   have hfr := freeName_any hs hhs
   rw [show freeB hs = bindB h from by rw [<- HHS.out]; exact bind_free (by rw [HHK.out]; exact gk) HGD.out] at hfr
   have HFR := Lib.hid hfr
   cases hb : bindB h
   ·
    rw [HDN.out, if_neg (fun e => by rw [hb] at e; cases e.1)]
    rw [hb] at HFR
    clear hb gk hfr
    go_enter Tryd.func19, Tryd.ntmps19
    go_wp2_with fail
    refine (HFR.out _).mono ?_
    rintro e w3 ⟨rfl, hb3⟩
    have HB3 := Lib.hid (show Below w.heap.size w w3 from Below.trans ((Below.refl _ _).alloc (Nat.le_refl _) _) (hb3.mono (by simp)))
    clear hb3
    go_wp2_with fail
    exact bodyPost_ret (v := .string ⟨#[]⟩) (by simp [results, Tryd.results19, go_sem]) rfl ⟨rfl, HB3.out⟩
   rw [HDN.out, if_pos ⟨hb, by rw [HML.out]; omega⟩]
   rw [hb] at HFR
   clear hb gk hfr
   go_enter Tryd.func19, Tryd.ntmps19
   go_wp2_with fail
   refine (HFR.out _).mono ?_
   rintro e w3 ⟨rfl, hb3⟩
   have HB3 := Lib.hid (show Below w.heap.size w w3 from Below.trans ((Below.refl _ _).alloc (Nat.le_refl _) _) (hb3.mono (by simp)))
   have n2 : w3.cell? ⟨w.heap.size, 2, none⟩ = some (.string hs) := (hb3.cell (p := ⟨w.heap.size, 2, none⟩) (by simp)).trans (za _ _ _ 2)
   clear hb3
   go_wp2_with fail
   exact bodyPost_ret (v := .string hs) (by simp [results, Tryd.results19, go_sem]) rfl ⟨by rw [<- HHS.out]; rfl, HB3.out⟩
  have gkb : (hk != 3) = true := by rw [bne_iff_ne]; exact gk
  rw [HDN.out, if_neg (fun e => by rw [bind_kind (by rw [HHK.out]; exact gk)] at e; cases e.1)]
  clear gk
  go_enter Tryd.func19, Tryd.ntmps19
  go_wp2_with fail
  exact bodyPost_ret (v := .string ⟨#[]⟩) (by simp [results, Tryd.results19, go_sem]) rfl ⟨rfl, (Below.refl _ _).alloc (Nat.le_refl _) _⟩
 have hMi : ((M : Int) != 2) = true := by rw [bne_iff_ne]; omega
 rw [HDN.out, if_neg (fun e => by have := e.2; rw [HML.out] at this; omega)]
 go_enter Tryd.func19, Tryd.ntmps19
 go_wp2_with fail
 exact bodyPost_ret (v := .string ⟨#[]⟩) (by simp [results, Tryd.results19, go_sem]) rfl ⟨rfl, (Below.refl _ _).alloc (Nat.le_refl _) _⟩
theorem row_keep {wc W : World} {o : Option Nat} {g : Nat} (hg : wc.grownBy W o) (hlt : g < wc.heap.size) (hne : ∀ b, o = some b -> g < b) : (∀ j, W.cell? ⟨g, j, none⟩ = wc.cell? ⟨g, j, none⟩) /\ (∀ j, W.frozen? ⟨g, j, none⟩ = wc.frozen? ⟨g, j, none⟩) /\ g < W.heap.size := by
 have hb := hg.block g hlt (fun e => by have := hne g e.symm; omega)
 exact ⟨fun j => World.cell?_of_block (a := ⟨g, j, none⟩) hb, fun j => World.frozen?_of_block (a := ⟨g, j, none⟩) hb, Nat.lt_of_lt_of_le hlt hg.size⟩
theorem step_str {base : Nat} {ops : Array Oper} {o : Oper} {act : Act} {KK : Act -> World -> Prop} {Q : Exit -> Act -> World -> Prop} {E : Prop} {w : World} (hgd : o.guard = none) (s y : Operand)
  (ho : o.op = .call { callee := .builtin .append, args := #[s, y], argTypes := #[23, 23] })
  {v : Value} {X : List ByteArray} (hO : OwnAt kitS 9 base w v X) (x : ByteArray) (cs : Array Value) (hcs : cs.toList = kitS.cells x)
  (hs : act.eval s = v) (hy : act.eval y = .slice (some ⟨w.heap.size, 0, none⟩) 1 1) (hb : X.length + 1 <= 1048577) (hbase : base <= w.heap.size)
  (h : ∀ v' w', OwnAt kitS 9 base w' v' (X ++ [x]) -> w.grownBy w' v.ownBlock -> (v'.ownBlock = v.ownBlock \/ ∃ b, v'.ownBlock = some b /\ w.heap.size <= b) -> KK (act.put o.dst v') w') :
  if Region.wanted o (yielded ops act.tmps) = true then Oper.wp Tryd.prog o act (w.alloc (.cells cs 9)) KK Q else E := by
 obtain ⟨i0, hi, hz0, hz1, hz2⟩ := info_parts infoString
 exact step_ownV hgd s y ho Tryd.underlying23 hi hz0 hz1 hz2 rfl (by decide) hO x cs hcs trivial (fun b hb => hb.elim) (fun b hb => hb.elim) hs hy (by unfold maxLen; omega) hbase h
theorem step_strD {base : Nat} {ops : Array Oper} {o : Oper} {act : Act} {KK : Act -> World -> Prop} {Q : Exit -> Act -> World -> Prop} {E : Prop} {w : World} (hgd : o.guard = none) (s y : Operand)
  (ho : o.op = .call { callee := .builtin .append, args := #[s, y], argTypes := #[23, 23] })
  {v : Value} {X : List ByteArray} (hO : OwnAt kitS 9 base w v X) (x : ByteArray) (cs : Array Value) (hcs : cs.toList = kitS.cells x)
  (hs : act.eval s = v) (hy : act.eval y = .slice (some ⟨w.heap.size, 0, none⟩) 1 1) (hb : X.length + 1 <= 1048577) (hbase : base <= w.heap.size)
  (h : ∀ v' w', OwnAt kitS 9 base w' v' (X ++ [x]) -> w.grownBy w' v.ownBlock -> (v'.ownBlock = v.ownBlock \/ ∃ b, v'.ownBlock = some b /\ w.heap.size <= b) -> KK (act.put o.dst v') w') :
  if Region.wanted o (yielded ops act.tmps) = true then Oper.wp Tryd.prog o act (w.alloc (.cells cs 9)).drew KK Q else E :=
 step_str (w := w.drew) hgd s y ho (hO.new ((Below.refl _ _).drew)) x cs hcs hs hy hb hbase (fun v' w' h1 h2 h3 => h v' w' h1 ((zb ((Below.refl _ _).drew) _).trans h2) h3)
theorem shape_end2 {w w5 w' : World} {nm : ByteArray} {A : Option Addr} {n cap : Nat} {c : Int} (hc : c ≠ 0) (hb : Below w.heap.size w w5) (hg : w5.grownBy w' (some w.heap.size)) : ShapePost w (.returned (.tuple #[.agg #[.string nm, .slice A n cap], .int .i64 c])) w' (.err c) :=
 ⟨nm, A, n, cap, rfl, hc, ⟨hg.os.trans hb.os, hg.tape.trans hb.tape, hg.output.trans hb.output, Nat.le_trans hb.size hg.size, fun k hk => (hg.block k (Nat.lt_of_lt_of_le hk hb.size) (fun e => by have := Option.some.inj e; omega)).trans (hb.block k hk)⟩⟩
set_option maxHeartbeats 8000000 in
theorem topShape_any {W0 w : World} {F : Nat} (hW : Below W0.heap.size W0 w) (hF : W0.heap.size <= F) (B : Option Addr) (bc : Nat) (h : Dt) (rest : List Dt) (hds : DsAt W0 w F B bc (h :: rest)) (hgd : ∀ x ∈ h :: rest, Good 40 x) (hlen : (h :: rest).length <= 1048576) :
  Calls Tryd.prog 17 #[.slice B (h :: rest).length bc] w (fun e w' => ShapePost w e w' (shapeT (h :: rest))) := by
 obtain ⟨p, q, A, c, rfl, hpw, hpF, e0, e1, e2, e3, hd, hi, ht⟩ := hds.first hW hF
 have HGD := Lib.hid hgd
 have HW := Lib.hid hW
 have HFF := Lib.hid hF
 have HDS := Lib.hid hds
 have HT := Lib.hid ht
 have hcap := hds.le
 have hbcm := hds.cap_
 unfold maxLen at hbcm
 obtain ⟨M, hM⟩ : ∃ M, (h :: rest).length = M := ⟨_, rfl⟩
 have HML := Lib.hid (show rest.length = M - 1 by rw [<- hM, List.length_cons]; rfl)
 have HMM := Lib.hid hM
 have hM1 : 1 <= M := by rw [<- hM]; simp
 rw [hM] at hlen hcap ⊢
 have hM0 : (0 : Int) <= (M : Int) := Int.natCast_nonneg _
 have hM2 : (0 : Int) < (M : Int) := by omega
 have hneP := World.new_ne w _ e0
 have hneP2 : w.heap.size + 1 ≠ p := by omega
 obtain ⟨hk, hhk⟩ : ∃ hk, h.k = hk := ⟨_, rfl⟩
 have HHK := Lib.hid hhk
 rw [hhk] at e0
 obtain ⟨hs, hss⟩ : ∃ hs, h.s = hs := ⟨_, rfl⟩
 have HHS := Lib.hid hss
 rw [hss] at e2
 have hhs : hs.size <= maxLen := by rw [<- hss]; exact (hgd h (List.mem_cons_self ..)).wide
 obtain ⟨w2, hw2⟩ : ∃ w2, (w.alloc (.cells #[.string ⟨#[]⟩, .slice none 0 0] 53)).alloc (.cells #[.string ⟨#[]⟩, .slice none 0 0] 53) = w2 := ⟨_, rfl⟩
 have hb2 : Below w.heap.size w w2 := by rw [<- hw2]; exact ((Below.refl _ _).alloc (Nat.le_refl _) _).alloc (by simp) _
 have hs2 : w2.heap.size = w.heap.size + 2 := by rw [<- hw2]; simp
 have z : (w.alloc (.cells #[.string ⟨#[]⟩, .slice none 0 0] 53)).heap.size = w.heap.size + 1 := by simp
 have R0 : ∀ j, w2.cell? ⟨w.heap.size, j, none⟩ = (#[.string ⟨#[]⟩, .slice none 0 0] : Array Value)[j]? := fun j => by rw [<- hw2]; exact (World.cell?_alloc_lt _ _ ⟨w.heap.size, j, none⟩ (by simp)).trans (za _ _ _ j)
 have RF0 : ∀ j, w2.frozen? ⟨w.heap.size, j, none⟩ = false := fun j => by rw [<- hw2]; exact ((Below.refl _ _).alloc (Nat.le_refl _) _ : Below (w.alloc (.cells #[.string ⟨#[]⟩, .slice none 0 0] 53)).heap.size _ _).frozen (p := ⟨w.heap.size, j, none⟩) (by simp) |>.trans (zi _ _ _ j)
 have Q0 : ∀ j, w2.cell? ⟨w.heap.size + 1, j, none⟩ = (#[.string ⟨#[]⟩, .slice none 0 0] : Array Value)[j]? := fun j => by rw [<- hw2, <- z]; exact za _ _ _ j
 have QF0 : ∀ j, w2.frozen? ⟨w.heap.size + 1, j, none⟩ = false := fun j => by rw [<- hw2, <- z]; exact zi _ _ _ j
 have f0 : w2.cell? ⟨p, q, none⟩ = some (.int .i64 hk) := (hb2.cell (p := ⟨p, q, none⟩) hpw).trans e0
 have f2 : w2.cell? ⟨p, q + 2, none⟩ = some (.string hs) := (hb2.cell (p := ⟨p, q + 2, none⟩) hpw).trans e2
 have g0 : w2.cell? ⟨w.heap.size + 1, 0, none⟩ = some (.string ⟨#[]⟩) := Q0 0
 have g1 : w2.cell? ⟨w.heap.size + 1, 1, none⟩ = some (.slice none 0 0) := Q0 1
 have HW2 := Lib.hid hw2
 have HB2 := Lib.hid hb2
 have HS2 := Lib.hid hs2
 have HRR := Lib.hid (And.intro R0 RF0)
 have HQQ := Lib.hid (And.intro Q0 QF0)
 have HF2 := Lib.hid f2
 clear hds hd hi ht hgd hW hF hM hhk hss hb2 hw2 z e0 e1 e2 e3 Q0
 by_cases gk : hk = 3
 case neg =>
  have gkb : (hk != 3) = true := by rw [bne_iff_ne]; exact gk
  rw [shape_name (bind_kind (by rw [HHK.out]; exact gk))]
  clear gk
  go_enter Tryd.func17, Tryd.ntmps17
  go_upto_region 2 with fail
  rw [HW2.out]
  go_wp2_with fail
  exact bodyPost_ret (v := .tuple #[.agg #[.string ⟨#[]⟩, .slice none 0 0], .int .i64 4]) (by simp [results, Tryd.results17, go_sem, R0]) rfl (shape_end2 (by decide) HB2.out ((zd _ _ _ _).trans (zd _ _ _ _)))
 have gkb : (hk != 3) = false := by rw [bne_eq_false_iff_eq]; exact gk
 have hfr := freeName_any hs hhs w2
 rw [show freeB hs = bindB h from by rw [<- HHS.out]; exact bind_free (by rw [HHK.out]; exact gk) (HGD.out h (List.mem_cons_self ..))] at hfr
 have HFR := Lib.hid hfr
 clear gk hfr
 cases hb : bindB h
 case false =>
  rw [shape_name hb]
  rw [hb] at HFR
  clear hb
  go_enter Tryd.func17, Tryd.ntmps17
  go_upto_region 2 with fail
  rw [HW2.out]
  go_wp2_with fail
  refine HFR.out.mono ?_
  rintro e w3 ⟨rfl, hb3⟩
  have HB3 := Lib.hid (show Below w.heap.size w w3 from HB2.out.trans (hb3.mono HB2.out.size))
  have R3 : ∀ j, w3.cell? ⟨w.heap.size, j, none⟩ = (#[.string ⟨#[]⟩, .slice none 0 0] : Array Value)[j]? := fun j => (hb3.cell (p := ⟨w.heap.size, j, none⟩) (by show w.heap.size < _; omega)).trans (R0 j)
  have RF3 : ∀ j, w3.frozen? ⟨w.heap.size, j, none⟩ = false := fun j => (hb3.frozen (p := ⟨w.heap.size, j, none⟩) (by show w.heap.size < _; omega)).trans (RF0 j)
  have k0 : w3.cell? ⟨w.heap.size + 1, 0, none⟩ = some (.string ⟨#[]⟩) := (hb3.cell (p := ⟨w.heap.size + 1, 0, none⟩) (by show w.heap.size + 1 < _; omega)).trans g0
  have k1 : w3.cell? ⟨w.heap.size + 1, 1, none⟩ = some (.slice none 0 0) := (hb3.cell (p := ⟨w.heap.size + 1, 1, none⟩) (by show w.heap.size + 1 < _; omega)).trans g1
  clear hb3 R0 RF0 g0 g1 f0 f2
  go_wp2_with fail
  exact bodyPost_ret (v := .tuple #[.agg #[.string ⟨#[]⟩, .slice none 0 0], .int .i64 4]) (by simp [results, Tryd.results17, go_sem, R3]) rfl (shape_end2 (by decide) HB3.out ((zd _ _ _ _).trans (zd _ _ _ _)))
 have HB := Lib.hid hb
 rw [hb] at HFR
 obtain ⟨r, hr⟩ : ∃ r, shapeT (h :: rest) = r := ⟨_, rfl⟩
 rw [hr]
 have HRS := Lib.hid hr
 clear hb hr
 go_enter Tryd.func17, Tryd.ntmps17
 go_upto_region 2 with fail
 rw [HW2.out]
 go_wp2_with fail
 refine HFR.out.mono ?_
 rintro e w3 ⟨rfl, hb3⟩
 have hs3 : w.heap.size + 2 <= w3.heap.size := by have := hb3.size; omega
 have hsz : w.heap.size < w3.heap.size := by omega
 have hsz2 : w.heap.size + 1 < w3.heap.size := by omega
 have hpw3 : p < w3.heap.size := by have := HB2.out.size; have := hb3.size; omega
 have HB3 := Lib.hid (show Below w.heap.size w w3 from HB2.out.trans (hb3.mono HB2.out.size))
 have R3 : ∀ j, w3.cell? ⟨w.heap.size, j, none⟩ = (#[.string ⟨#[]⟩, .slice none 0 0] : Array Value)[j]? := fun j => (hb3.cell (p := ⟨w.heap.size, j, none⟩) (by show w.heap.size < _; omega)).trans (R0 j)
 have RF3 : ∀ j, w3.frozen? ⟨w.heap.size, j, none⟩ = false := fun j => (hb3.frozen (p := ⟨w.heap.size, j, none⟩) (by show w.heap.size < _; omega)).trans (RF0 j)
 have k0 : w3.cell? ⟨w.heap.size + 1, 0, none⟩ = some (.string ⟨#[]⟩) := (hb3.cell (p := ⟨w.heap.size + 1, 0, none⟩) (by show w.heap.size + 1 < _; omega)).trans g0
 have k1 : w3.cell? ⟨w.heap.size + 1, 1, none⟩ = some (.slice none 0 0) := (hb3.cell (p := ⟨w.heap.size + 1, 1, none⟩) (by show w.heap.size + 1 < _; omega)).trans g1
 have kf : ∀ j, w3.frozen? ⟨w.heap.size + 1, j, none⟩ = false := fun j => (hb3.frozen (p := ⟨w.heap.size + 1, j, none⟩) (by show w.heap.size + 1 < _; omega)).trans (QF0 j)
 have l2 : w3.cell? ⟨p, q + 2, none⟩ = some (.string hs) := (hb3.cell (p := ⟨p, q + 2, none⟩) (by show p < w2.heap.size; have := HB2.out.size; omega)).trans f2
 have HRR3 := Lib.hid (And.intro R3 RF3)
 have HAT := Lib.hid (show ShAt (w3.setCell ⟨w.heap.size + 1, 0, none⟩ (.string hs)) (w.heap.size + 1) hs (.slice none 0 0) from ⟨by simpa [World.setCell] using hsz2, zk k0, zj k1 (by decide), fun j => by simpa using kf j⟩)
 clear hb3 R0 RF0 QF0 g0 g1 f0 f2 hs2
 obtain ⟨w4, hw4⟩ : ∃ w4, w3.setCell ⟨w.heap.size + 1, 0, none⟩ (.string hs) = w4 := ⟨_, rfl⟩
 have HB4 := Lib.hid (show Below w.heap.size w w4 from by rw [<- hw4]; exact HB3.out.setCell (p := ⟨w.heap.size + 1, 0, none⟩) (Nat.le_succ _) _)
 have R4 : ∀ j, w4.cell? ⟨w.heap.size, j, none⟩ = (#[.string ⟨#[]⟩, .slice none 0 0] : Array Value)[j]? := fun j => by rw [<- hw4]; exact (World.cell?_setCell_other (h := by simp) ..).trans (HRR3.out.1 j)
 have RF4 : ∀ j, w4.frozen? ⟨w.heap.size, j, none⟩ = false := fun j => by rw [<- hw4]; simpa using HRR3.out.2 j
 have HRR4 := Lib.hid (And.intro R4 RF4)
 rw [hw4] at HAT
 clear R3 RF3 R4 RF4
 go_upto_region 5 with fail
 (try rw [hw4])
 clear hw4
 go_wp2_with fail
 go_loopg [5] (M - 1) (fun g i wr => ∃ (j : Nat) (v : Value), g = M - 1 - j /\ j <= M - 1 /\ i = .int .i64 ((j : Int) + 1) /\ ShRel w w4 hs rest j v wr)
 case atStart => exact ⟨0, _, by omega, by omega, rfl, ⟨rfl, OwnAt.start _ _ _ _, Below.refl _ _, HAT.out⟩⟩
 obtain ⟨j, v, hg, hj, rfl, hR⟩ := hrel
 have HG := Lib.hid hg
 have HR := Lib.hid hR
 have hj0 : (0 : Int) <= (j : Int) := Int.natCast_nonneg _
 have hbr : Below w.heap.size w wr := HB4.out.trans (hR.bel.mono (Nat.le_succ _))
 have hpr := hR.at_.lt
 have hwr : w.heap.size < wr.heap.size := by omega
 have R : ∀ i, wr.cell? ⟨w.heap.size, i, none⟩ = (#[.string ⟨#[]⟩, .slice none 0 0] : Array Value)[i]? := fun i => (hR.bel.cell (p := ⟨w.heap.size, i, none⟩) (Nat.lt_succ_self _)).trans (HRR4.out.1 i)
 have RF : ∀ i, wr.frozen? ⟨w.heap.size, i, none⟩ = false := fun i => (hR.bel.frozen (p := ⟨w.heap.size, i, none⟩) (Nat.lt_succ_self _)).trans (HRR4.out.2 i)
 have HBR := Lib.hid hbr
 have q0 := HR.out.at_.c0
 obtain ⟨Av, cv, rfl, hv1, hv2, _⟩ := HR.out.own.form
 have q1 := HR.out.at_.c1
 have qf := HR.out.at_.fz
 have hX : ((rest.take j).map Dt.s).length = j := by simp; rw [HML.out]; omega
 have hOW := HR.out.own
 rw [hX] at q1 hv1 hOW
 have HOW := Lib.hid hOW
 have hR2 := HR.out
 rw [hX] at hR2
 have HR2 := Lib.hid hR2
 have HX := Lib.hid hX
 clear hg hR hOW hX hR2
 by_cases hlt : j < M - 1
 ·
  have hlt2 : (j : Int) + 1 < (M : Int) := by omega
  have hjr : j < rest.length := by rw [HML.out]; exact hlt
  obtain ⟨b, o, hA, hbw, hbF, cs, hrow, hde⟩ := HT.out.nth j hjr
  cases hA
  obtain ⟨A2, c2, rfl, hie⟩ := hde.items HW.out HFF.out
  obtain ⟨e, hje⟩ : ∃ e, rest[j] = e := ⟨_, rfl⟩
  rw [hje] at hrow
  have HJE := Lib.hid hje
  have hpw2 : p < wr.heap.size := by omega
  have hneR : wr.heap.size ≠ p := by omega
  have hneR2 : wr.heap.size ≠ w.heap.size := by omega
  have hneR3 : wr.heap.size ≠ w.heap.size + 1 := by omega
  have c0 : wr.cell? ⟨p, q + ((j + 1) * 4), none⟩ = some (.int .i64 e.k) := by rw [show q + ((j + 1) * 4) = q + 4 + j * 4 by omega]; exact (hbr.cell (p := ⟨p, q + 4 + j * 4, none⟩) hpw).trans (hrow 0 (by simp))
  have c2' : wr.cell? ⟨p, q + ((j + 1) * 4) + 2, none⟩ = some (.string e.s) := by rw [show q + ((j + 1) * 4) + 2 = q + 4 + j * 4 + 2 by omega]; exact (hbr.cell (p := ⟨p, q + 4 + j * 4 + 2, none⟩) hpw).trans (hrow 2 (by simp))
  obtain ⟨ek, hek⟩ : ∃ ek, e.k = ek := ⟨_, rfl⟩
  have HEK := Lib.hid hek
  rw [hek] at c0
  clear hrow hde hie hje hek hbr
  by_cases h3 : ek = 3
  ·
   have h5 : (ek != 3) = false := by simpa using h3
   have hj1 : (0 : Int) <= (j : Int) + 1 := by omega
   have H3 := Lib.hid h3
   clear h3
   go_upto_region 10 with fail
   have HKW := Lib.hid (fun (W : World) (hg : wr.grownBy W (Value.slice Av j cv).ownBlock) => row_keep (g := w.heap.size + 1) hg hpr (fun b hb => (by have := HOW.out.row.lt b hb; omega)))
   go_region_law (refine step_strD (by rfl) (.tmp 40) (.tmp 46) (by rfl) HOW.out e.s _ rfl (by rfl) (by rfl) (by rw [HX.out]; omega) (by omega) ?_; intro v9 w9 h5 h6 h7; obtain ⟨A9, c9, h8, _⟩ := h5.form; rw [show ((rest.take j).map Dt.s ++ [e.s]).length = j + 1 by rw [List.length_append, HX.out]; rfl] at h8; subst h8; obtain ⟨k3, kf, s9⟩ := HKW.out w9 h6; have k31 := (k3 1).trans q1; have kf1 := (kf 1).trans (qf 1); have H5 := Lib.hid h5; have H6 := Lib.hid h6; clear h5 h6 h7 k3 kf)
   all_goals (go_wp2_with fail)
   all_goals (go_roundg (M - 1 - (j + 1)))
   all_goals (first | (have := HG.out; omega) | exact ⟨j + 1, _, rfl, by omega, by go_num, ShRel.step HR2.out hjr (by rw [HJE.out, HEK.out]; exact H3.out) (Below.refl _ _) (by rw [HJE.out]; exact H5.out) H6.out⟩)
  have h5 : (ek != 3) = true := by simpa using h3
  obtain rfl : r = .err 4 := by rw [<- HRS.out]; exact shape_sym HB.out j hjr (by rw [HJE.out, HEK.out]; exact h3)
  clear h3
  go_wp2_with fail
  exact bodyPost_ret (v := .tuple #[.agg #[.string hs, .slice Av j cv], .int .i64 4]) (by simp [results, Tryd.results17, go_sem, R]) rfl (shape_end2 (by decide) HBR.out ((zd _ _ _ _).trans (zd _ _ _ _)))
 obtain rfl : j = M - 1 := by omega
 have htk : rest.take (M - 1) = rest := List.take_of_length_le (Nat.le_of_eq HML.out)
 obtain ⟨ss, hss⟩ : ∃ ss, rest.map Dt.s = ss := ⟨_, rfl⟩
 have hall := HR2.out.all_
 have hOW := HOW.out
 have hX := HX.out
 rw [htk, hss] at hOW hX
 rw [htk] at hall
 obtain ⟨A9, c9, hv9, hsc9, hnm9⟩ := own_names (lo := w.heap.size + 1) (F := w.heap.size) hOW (by omega) (by omega)
 rw [hX] at hv9
 obtain ⟨rfl, rfl⟩ : Av = A9 /\ cv = c9 := by simpa using hv9
 obtain ⟨cc, hcc⟩ : ∃ cc, shapeF hs ss = cc := ⟨_, rfl⟩
 have hcc2 : shapeF hs (rest.map Dt.s) = cc := by rw [hss]; exact hcc
 have hres : r = if cc = 0 then .ok (hs, ss) else .err cc := by rw [<- HRS.out, shape_all (e := cc) HB.out hall (by rw [HHS.out]; exact hcc2), hss, HHS.out]
 have hsw : ∀ s ∈ ss, s.size <= maxLen := by
  intro s hs
  rw [<- hss] at hs
  obtain ⟨x, hx, rfl⟩ := List.mem_map.1 hs
  exact (HGD.out x (List.mem_cons_of_mem _ hx)).wide
 have CS := Lib.hid (show ∀ W : World, Below w.heap.size w W -> wr.grownBy W (some w.heap.size) -> Calls Tryd.prog 49 #[.agg #[.string hs, .slice Av (M - 1) cv]] W (fun e w' => e = .returned (.int .i64 cc) /\ Below W.heap.size W w') from fun W h1 h2 => by
  rw [<- hcc]
  have h3 := (hsc9.grown h2).strs
  rw [hX] at h3
  exact shapeFault_any W hs Av (M - 1) cv ss ⟨rfl, hhs, h3, hsw, hv1, hv2⟩)
 have HRES := Lib.hid hres
 have HNM := Lib.hid hnm9
 have HXX := Lib.hid hX
 have hneW : w.heap.size + 1 ≠ w.heap.size := by omega
 clear hcc2 htk hss hall hOW hX hsc9 hnm9 hcc hres hsw hv9 hbr
 go_upto_region 11 with fail
 go_region_held3 (fun w' => w'.cell? ⟨w.heap.size + 1, 0, none⟩ = some (.string hs) /\ w'.cell? ⟨w.heap.size + 1, 1, none⟩ = some (.slice Av (M - 1) cv)) (go_keep)
  (first | (go_at_call 49; refine (CS.out _ (by (repeat' (first | with_reducible exact HBR.out | with_reducible apply Below.drew | (with_reducible refine Below.setCell ?_ ?_ _))); all_goals (exact Nat.le_refl _)) (by (repeat' (first | with_reducible exact World.grownBy.rfl' _ _ | with_reducible apply grown_drew' | with_reducible apply grown_set')))).mono ?_; rintro e w5 ⟨rfl, hb5⟩; have HB5 := Lib.hid (show Below w.heap.size w w5 from Below.trans (show Below w.heap.size w _ from (by (repeat' (first | with_reducible exact HBR.out | with_reducible apply Below.drew | (with_reducible refine Below.setCell ?_ ?_ _))); all_goals (exact Nat.le_refl _))) (hb5.mono (by first | (simp; done) | (simp; omega)))); have HG5 := Lib.hid (show wr.grownBy w5 (some w.heap.size) from World.grownBy.trans (show wr.grownBy _ (some w.heap.size) from (by (repeat' (first | with_reducible exact World.grownBy.rfl' _ _ | with_reducible apply grown_drew' | with_reducible apply grown_set')))) (zb hb5 _)); have m0 : w5.cell? ⟨w.heap.size + 1, 0, none⟩ = some (.string hs) := (hb5.cell (p := ⟨w.heap.size + 1, 0, none⟩) (by simpa using hpr)).trans (by simpa using q0); have m1 : w5.cell? ⟨w.heap.size + 1, 1, none⟩ = some (.slice Av (M - 1) cv) := (hb5.cell (p := ⟨w.heap.size + 1, 1, none⟩) (by simpa using hpr)).trans (by simpa using q1); have hpr5 : w.heap.size + 1 < w5.heap.size := Nat.lt_of_lt_of_le (by simpa using hpr) hb5.size; have k5 := (fun i => hb5.cell (p := ⟨w.heap.size, i, none⟩) (by simpa using hwr)); have k6 := (fun i => hb5.frozen (p := ⟨w.heap.size, i, none⟩) (by simpa using hwr)); have hw5 : w.heap.size < w5.heap.size := (by omega); clear hb5))
 all_goals (go_wp2_with fail)
 all_goals exact bodyPost_ret (v := .tuple #[.agg #[.string hs, .slice Av (M - 1) cv], .int .i64 cc]) (by simp [results, Tryd.results17, go_sem, k5, R]) rfl (shape_end HRES.out HXX.out HNM.out HB5.out HG5.out (by (repeat' (first | with_reducible exact World.grownBy.rfl' _ _ | with_reducible apply grown_drew' | with_reducible apply grown_set'))))
end Go.Proofs.YtjmeodadkjcmmaaDoor
