import Derived.Test.YtjmeodadkjcmmaaDoorGFormJ
import Derived.Test.YtjmeodadkjcmmaaDoorGBase
namespace Go.Proofs.YtjmeodadkjcmmaaDoor
open Go.RowKit Go.ChangeShapes Go.WideShapes Go.Deep Go.ChangeAt
set_option linter.unusedVariables false
set_option maxRecDepth 20000
def HeadPost (W0 w : World) (F : Nat) (e : Ending) (w' : World) : Option (ByteArray × List Dt) -> Prop
 | none => e = .returned (.tuple #[.string ⟨#[]⟩, .slice none 0 0, .bool false]) /\ Below w.heap.size w w'
 | some (s, rest) => ∃ A c, e = .returned (.tuple #[.string s, .slice A rest.length c, .bool true]) /\ DsAt W0 w' F A c rest /\ Below w.heap.size w w'
theorem head_kind {d : Dt} (h : d.k ≠ 4) : headF d = none := by
 unfold headF
 split
 ·
  rw [if_neg (fun e => h e.1)]
 ·
  rfl
theorem head_few {d : Dt} (h : d.l.length < 2) : headF d = none := by
 unfold headF
 split
 ·
  rename_i hl; rw [hl] at h; simp only [List.length_cons] at h; omega
 rfl
theorem head_not {d h : Dt} {rest : List Dt} (hl : d.l = h :: rest) (hk : h.k ≠ 3) : headF d = none := by
 unfold headF
 split
 ·
  rename_i hl2
  rw [hl] at hl2
  cases hl2
  rw [if_neg (fun e => hk e.2)]
 ·
  rfl
theorem head_yes {d h : Dt} {rest : List Dt} (hl : d.l = h :: rest) (h1 : 1 <= rest.length) (hk4 : d.k = 4) (hk : h.k = 3) : headF d = some (h.s, rest) := by
 match rest, h1 with
 | b :: m, _ =>
  unfold headF
  rw [hl]
  simp only
  rw [if_pos ⟨hk4, hk⟩]
set_option maxHeartbeats 4000000 in
theorem head_any {W0 w : World} {F : Nat} (hW : Below W0.heap.size W0 w) (hF : W0.heap.size <= F) (d : Dt) (A : Option Addr) (c : Nat) (hd : DtIn W0 0 W0.heap.size [.int .i64 d.k, .int .i64 d.n, .string d.s, .slice A d.l.length c] d) (hlen : d.l.length <= 1048576) :
  Calls Tryd.prog 36 #[.agg #[.int .i64 d.k, .int .i64 d.n, .string d.s, .slice A d.l.length c]] w (fun e w' => HeadPost W0 w F e w' (headF d)) := by
 obtain ⟨A1, c1, hA, hl⟩ := hd.items hW hF
 obtain ⟨rfl, rfl⟩ : A = A1 /\ c = c1 := by simpa using hA
 obtain ⟨N, hN⟩ : ∃ N, d.l.length = N := ⟨_, rfl⟩
 have HN := Lib.hid hN
 have HL := Lib.hid hl
 have HD := Lib.hid hd
 have HW := Lib.hid hW
 have HFF := Lib.hid hF
 have hcN : N <= c := by rw [<- hN]; exact hl.le
 have hcm := hl.cap_
 unfold maxLen at hcm
 rw [hN] at hlen ⊢
 clear hd hl hA hW hN hF
 by_cases hk4 : d.k = 4
 ·
  have hk5 : (d.k != 4) = false := by simpa using hk4
  by_cases h2 : N < 2
  ·
   rw [head_few (by rw [HN.out]; exact h2)]
   have hn2 : (N : Int) < 2 := by omega
   clear hk4
   go_enter Tryd.func36, Tryd.ntmps36
   go_wp2_with fail
   exact bodyPost_ret (v := .tuple #[.string ⟨#[]⟩, .slice none 0 0, .bool false]) (by simp [results, Tryd.results36, go_sem]) rfl ⟨rfl, (Below.refl _ _).alloc (Nat.le_refl _) _⟩
  have hn2 : ¬ (N : Int) < 2 := by omega
  obtain ⟨h, rest, hl⟩ : ∃ h rest, d.l = h :: rest := by
   have := HN.out
   cases hl : d.l with
   | nil => rw [hl] at this; simp at this; omega
   | cons h rest => exact ⟨h, rest, rfl⟩
  have HLL := Lib.hid hl
  obtain ⟨b, o, A', c', rfl, hbw, hbF, d0, d1, d2, d3, hd, hi, ht⟩ := (show DsAt W0 w F A c (h :: rest) from hl ▸ HL.out).first HW.out HFF.out
  have hR : rest.length = N - 1 := by have := HN.out; rw [hl] at this; simp at this; omega
  have HT := Lib.hid ht
  have HR := Lib.hid hR
  have HK4 := Lib.hid hk4
  have hneB := World.new_ne w _ d0
  have hc1 : ¬ c = 1 := by omega
  have hi1 : (1 : Int) <= (N : Int) := by omega
  have hi2 : (N : Int) <= (c : Int) := by omega
  have hi3 : IntKind.i64.wrap 1 = 1 := IntWalk.i64_in _ (by omega)
  have hN0 : 0 < N := by omega
  have hN1 : (0 : Int) < (N : Int) := by omega
  obtain ⟨hk, hhk⟩ : ∃ hk, h.k = hk := ⟨_, rfl⟩
  have HHK := Lib.hid hhk
  rw [hhk] at d0
  clear hl hd hi ht hR hk4 hhk
  by_cases h3 : hk = 3
  ·
   rw [head_yes HLL.out (by rw [HR.out]; omega) HK4.out (by rw [HHK.out]; exact h3)]
   have h4 : (hk != 3) = false := by simpa using h3
   clear h3
   go_enter Tryd.func36, Tryd.ntmps36
   go_upto_region 3 with fail
   go_quiet (fail)
   go_wp2_with fail
   exact bodyPost_ret (v := .tuple #[.string h.s, .slice (some ⟨b, o + 4, none⟩) (N - 1) (c - 1), .bool true]) (by simp [results, Tryd.results36, go_sem]) rfl ⟨some ⟨b, o + 4, none⟩, c - 1, by rw [HR.out], HT.out.below (below_drewN ((Below.refl _ _).alloc (Nat.le_refl _) _) _), below_drewN ((Below.refl _ _).alloc (Nat.le_refl _) _) _⟩
  rw [head_not HLL.out (by rw [HHK.out]; exact h3)]
  have h4 : (hk != 3) = true := by simpa using h3
  clear h3
  go_enter Tryd.func36, Tryd.ntmps36
  go_wp2_with fail
  exact bodyPost_ret (v := .tuple #[.string ⟨#[]⟩, .slice none 0 0, .bool false]) (by simp [results, Tryd.results36, go_sem]) rfl ⟨rfl, (Below.refl _ _).alloc (Nat.le_refl _) _⟩
 rw [head_kind hk4]
 have hk5 : (d.k != 4) = true := by simpa using hk4
 clear hk4
 go_enter Tryd.func36, Tryd.ntmps36
 go_wp2_with fail
 exact bodyPost_ret (v := .tuple #[.string ⟨#[]⟩, .slice none 0 0, .bool false]) (by simp [results, Tryd.results36, go_sem]) rfl ⟨rfl, (Below.refl _ _).alloc (Nat.le_refl _) _⟩
def DefPost (w : World) (e : Ending) (w' : World) : Option ByteArray -> Prop
 | none => ∃ s, e = .returned (.tuple #[.string s, .bool false]) /\ Below w.heap.size w w'
 | some n => e = .returned (.tuple #[.string n, .bool true]) /\ Below w.heap.size w w'
theorem bind_kind {h : Dt} (hk : h.k ≠ 3) : bindB h = false := by unfold bindB; rw [show (h.k == 3) = false by simpa using hk]; rfl
theorem def_list {h g : Dt} {gs m : List Dt} (hk : h.k = 4) (hl : h.l = g :: gs) : defT (h :: m) = if bindB g = true /\ 1 <= m.length then some g.s else none := by
 simp only [defT]; rw [if_pos hk, hl]
theorem def_nil {h : Dt} {m : List Dt} (hk : h.k = 4) (hl : h.l = []) : defT (h :: m) = none := by
 simp only [defT]; rw [if_pos hk, hl]
theorem def_name {h : Dt} {m : List Dt} (hk : h.k ≠ 4) : defT (h :: m) = if bindB h = true /\ m.length = 1 then some h.s else none := by
 simp only [defT]; rw [if_neg hk]
theorem name_at {d : Dt} {b : Bool} (hb : bindB d = b) (A : Option Addr) (len cap : Nat) (w : World) (hs : d.s.size <= maxLen) (hm : UMaps w) :
  Calls Tryd.prog 61 #[.agg #[.int .i64 d.k, .int .i64 d.n, .string d.s, .slice A len cap]] w fun e w' => e = .returned (.bool b) /\ Below w.heap.size w w' := by
 have := name_any d A len cap w hs hm
 rwa [hb] at this
set_option maxHeartbeats 4000000 in
theorem defined_any {W0 w : World} {F : Nat} (hW : Below W0.heap.size W0 w) (hF : W0.heap.size <= F) (hmaps : UMaps W0) (B : Option Addr) (bc : Nat) (h : Dt) (rest : List Dt) (hds : DsAt W0 w F B bc (h :: rest)) (hgd : Good 40 h) (hlen : (h :: rest).length <= 1048576) :
  Calls Tryd.prog 39 #[.slice B (h :: rest).length bc] w (fun e w' => DefPost w e w' (defT (h :: rest))) := by
 obtain ⟨p, q, A, c, rfl, hpw, hpF, e0, e1, e2, e3, hd, hi, ht⟩ := hds.first hW hF
 have HI := Lib.hid hi
 have HGD := Lib.hid hgd
 have HM := Lib.hid (hmaps.below hW)
 have HW := Lib.hid hW
 have HFF := Lib.hid hF
 have hcN : h.l.length <= c := hi.le
 have hcap := hds.le
 have hNlen := hgd.len
 obtain ⟨M, hM⟩ : ∃ M, (h :: rest).length = M := ⟨_, rfl⟩
 have HML := Lib.hid (show rest.length = M - 1 by rw [<- hM, List.length_cons]; rfl)
 have hM1 : 1 <= M := by rw [<- hM]; simp
 rw [hM] at hlen hcap ⊢
 obtain ⟨N, hN⟩ : ∃ N, h.l.length = N := ⟨_, rfl⟩
 have HN := Lib.hid hN
 rw [hN] at e3 hcN hNlen
 obtain ⟨hk, hhk⟩ : ∃ hk, h.k = hk := ⟨_, rfl⟩
 have HHK := Lib.hid hhk
 rw [hhk] at e0
 have hM0 : (0 : Int) <= (M : Int) := Int.natCast_nonneg _
 have hN0 : (0 : Int) <= (N : Int) := Int.natCast_nonneg _
 have hM2 : (0 : Int) < (M : Int) := by omega
 clear hds hd hi ht hgd hmaps hW hF hM hN hhk
 by_cases h4 : hk = 4
 ·
  subst h4
  by_cases h0 : N = 0
  ·
   subst h0
   have hnil : h.l = [] := List.eq_nil_of_length_eq_zero HN.out
   rw [def_nil HHK.out hnil]
   have KN := Lib.hid (fun w' (hb : Below w.heap.size w w') => name_at (bind_kind (h := h) (by rw [HHK.out]; decide)) A 0 c w' HGD.out.wide (HM.out.below hb))
   rw [HHK.out] at KN
   clear hnil
   have n0 : (w.alloc (.cells #[.int .i64 4, .int .i64 h.n, .string h.s, .slice A 0 c] 38)).cell? ⟨w.heap.size, 0, none⟩ = some (.int .i64 4) := za _ _ _ 0
   have n1 : (w.alloc (.cells #[.int .i64 4, .int .i64 h.n, .string h.s, .slice A 0 c] 38)).cell? ⟨w.heap.size, 1, none⟩ = some (.int .i64 h.n) := za _ _ _ 1
   have n2 : (w.alloc (.cells #[.int .i64 4, .int .i64 h.n, .string h.s, .slice A 0 c] 38)).cell? ⟨w.heap.size, 2, none⟩ = some (.string h.s) := za _ _ _ 2
   have n3 : (w.alloc (.cells #[.int .i64 4, .int .i64 h.n, .string h.s, .slice A 0 c] 38)).cell? ⟨w.heap.size, 3, none⟩ = some (.slice A 0 c) := za _ _ _ 3
   go_enter Tryd.func39, Tryd.ntmps39
   go_upto_region 4 with fail
   refine zq (fun w' => Below (w.alloc (.cells #[.int .i64 4, .int .i64 h.n, .string h.s, .slice A 0 c] 38)).heap.size (w.alloc (.cells #[.int .i64 4, .int .i64 h.n, .string h.s, .slice A 0 c] 38)) w') (by kernel_rfl) (by kernel_rfl) (Below.refl _ _).drew ?_
   go_big_quiet_want; refine zc (.pointer (some ⟨w.heap.size, 2, none⟩)) (fun w1 hw1 => ?_) ?_
   ·
    go_simp
   go_simp; go_big_quiet_on
   go_big_quiet_want; refine zc (.string h.s) (fun w1 hw1 => ?_) ?_
   ·
    have m2 : w1.cell? ⟨w.heap.size, 2, none⟩ = some (.string h.s) := (hw1.cell (p := ⟨w.heap.size, 2, none⟩) (by first | (simp; done) | (simp; omega))).trans n2
    go_simp
   go_simp; go_big_quiet_on
   go_big_quiet_want; refine zc (.agg #[.int .i64 4, .int .i64 h.n, .string h.s, .slice A 0 c]) (fun w1 hw1 => ?_) ?_
   ·
    have m0 : w1.cell? ⟨w.heap.size, 0, none⟩ = some (.int .i64 4) := (hw1.cell (p := ⟨w.heap.size, 0, none⟩) (by first | (simp; done) | (simp; omega))).trans n0
    have m1 : w1.cell? ⟨w.heap.size, 1, none⟩ = some (.int .i64 h.n) := (hw1.cell (p := ⟨w.heap.size, 1, none⟩) (by first | (simp; done) | (simp; omega))).trans n1
    have m2 : w1.cell? ⟨w.heap.size, 2, none⟩ = some (.string h.s) := (hw1.cell (p := ⟨w.heap.size, 2, none⟩) (by first | (simp; done) | (simp; omega))).trans n2
    have m3 : w1.cell? ⟨w.heap.size, 3, none⟩ = some (.slice A 0 c) := (hw1.cell (p := ⟨w.heap.size, 3, none⟩) (by first | (simp; done) | (simp; omega))).trans n3
    go_simp
   go_simp; go_big_quiet_on
   go_big_quiet_want; refine zs (.bool false) 61 #[.agg #[.int .i64 4, .int .i64 h.n, .string h.s, .slice A 0 c]] (fun w1 hw1 => ?_) (fun w1 hw1 => (KN.out w1 (Below.trans ((Below.refl _ _).alloc (Nat.le_refl _) _) (hw1.mono (by first | exact Nat.le_succ _ | (simp; done) | (simp; omega))))).mono ?_) ?_
   ·
    go_simp
   ·
    rintro e w2 ⟨rfl, hb2⟩; exact ⟨rfl, Below.trans hw1 (hb2.mono hw1.size)⟩
   go_simp; go_big_quiet_on
   go_big_quiet_want; go_big_quiet_op; go_big_quiet_on
   go_big_quiet_skip
   go_big_quiet_skip
   go_big_quiet_skip
   go_big_quiet_want; refine zc (.bool false) (fun w1 hw1 => ?_) ?_
   ·
    go_simp
   go_simp; go_big_quiet_on
   go_big_quiet_want; go_big_quiet_op; go_big_quiet_on
   go_big_quiet_want; go_big_quiet_op; go_big_quiet_on
   refine wpQuiet_nil ?_
   intro w5 hw5
   have HB5 := Lib.hid (show Below w.heap.size w w5 from Below.trans ((Below.refl _ _).alloc (Nat.le_refl _) _) (hw5.mono (by first | exact Nat.le_succ _ | (simp; done) | (simp; omega))))
   clear hw5
   go_wp2_with fail
   exact bodyPost_ret (v := .tuple #[.string h.s, .bool false]) (by simp [results, Tryd.results39, go_sem]) rfl ⟨_, rfl, HB5.out⟩
  obtain ⟨g, gs, hl⟩ : ∃ g gs, h.l = g :: gs := by
   cases hl : h.l with
   | nil => rw [hl] at HN; exact absurd HN.out.symm h0
   | cons g gs => exact ⟨g, gs, rfl⟩
  have hN1 : (0 : Int) < (N : Int) := by omega
  obtain ⟨b, o, A', c', rfl, hbw, hbF, d0, d1, d2, d3, hd, hi, ht⟩ := (show DsAt W0 w F A c (g :: gs) from hl ▸ HI.out).first HW.out HFF.out
  have hgg : Good 40 g := HGD.out.low (by rw [hl]; simp)
  have HDL := Lib.hid (def_list (m := rest) HHK.out hl)
  obtain ⟨L', hL'⟩ : ∃ L', g.l.length = L' := ⟨_, rfl⟩
  rw [hL'] at d3
  obtain ⟨gk, hgk⟩ : ∃ gk, g.k = gk := ⟨_, rfl⟩
  rw [hgk] at d0
  have hneB := World.new_ne w _ d0
  have hM3 : ((2 : Int) <= (M : Int)) ↔ 1 <= rest.length := by rw [HML.out]; omega
  have HM3 := Lib.hid hM3
  cases hb : bindB g
  all_goals
   have KN := Lib.hid (fun w' (hbl : Below w.heap.size w w') => name_at hb A' g.l.length c' w' hgg.wide (HM.out.below hbl))
   rw [hgk, hL'] at KN
   rw [HDL.out, hb]
   clear hL' hgk hi hd ht hgg hl hb hM3
  ·
   rw [if_neg (by simp)]
   have n0 : (w.alloc (.cells #[.int .i64 4, .int .i64 h.n, .string h.s, .slice (some ⟨b, o, none⟩) N c] 38)).cell? ⟨b, o, none⟩ = some (.int .i64 gk) := (World.cell?_alloc_lt _ _ ⟨b, o, none⟩ hbw).trans d0
   have n1 : (w.alloc (.cells #[.int .i64 4, .int .i64 h.n, .string h.s, .slice (some ⟨b, o, none⟩) N c] 38)).cell? ⟨b, o + 1, none⟩ = some (.int .i64 g.n) := (World.cell?_alloc_lt _ _ ⟨b, o + 1, none⟩ hbw).trans d1
   have n2 : (w.alloc (.cells #[.int .i64 4, .int .i64 h.n, .string h.s, .slice (some ⟨b, o, none⟩) N c] 38)).cell? ⟨b, o + 2, none⟩ = some (.string g.s) := (World.cell?_alloc_lt _ _ ⟨b, o + 2, none⟩ hbw).trans d2
   have n3 : (w.alloc (.cells #[.int .i64 4, .int .i64 h.n, .string h.s, .slice (some ⟨b, o, none⟩) N c] 38)).cell? ⟨b, o + 3, none⟩ = some (.slice A' L' c') := (World.cell?_alloc_lt _ _ ⟨b, o + 3, none⟩ hbw).trans d3
   have n4 : (w.alloc (.cells #[.int .i64 4, .int .i64 h.n, .string h.s, .slice (some ⟨b, o, none⟩) N c] 38)).cell? ⟨w.heap.size, 3, none⟩ = some (.slice (some ⟨b, o, none⟩) N c) := za _ _ _ 3
   go_enter Tryd.func39, Tryd.ntmps39
   go_upto_region 3 with fail
   refine zq (fun w' => Below (w.alloc (.cells #[.int .i64 4, .int .i64 h.n, .string h.s, .slice (some ⟨b, o, none⟩) N c] 38)).heap.size (w.alloc (.cells #[.int .i64 4, .int .i64 h.n, .string h.s, .slice (some ⟨b, o, none⟩) N c] 38)) w') (by kernel_rfl) (by kernel_rfl) (Below.refl _ _).drew ?_
   go_big_quiet_want; refine zc (.pointer (some ⟨w.heap.size, 3, none⟩)) (fun w1 hw1 => ?_) ?_
   ·
    go_simp
   go_simp; go_big_quiet_on
   go_big_quiet_want; refine zc (.slice (some ⟨b, o, none⟩) N c) (fun w1 hw1 => ?_) ?_
   ·
    have m4 : w1.cell? ⟨w.heap.size, 3, none⟩ = some (.slice (some ⟨b, o, none⟩) N c) := (hw1.cell (p := ⟨w.heap.size, 3, none⟩) (by first | (simp; done) | (simp; omega))).trans n4
    go_simp
   go_simp; go_big_quiet_on
   go_big_quiet_want; refine zc (.pointer (some ⟨b, o, none⟩)) (fun w1 hw1 => ?_) ?_
   ·
    go_simp
   go_simp; go_big_quiet_on
   go_big_quiet_want; refine zc (.pointer (some ⟨b, o + 2, none⟩)) (fun w1 hw1 => ?_) ?_
   ·
    go_simp
   go_simp; go_big_quiet_on
   go_big_quiet_want; refine zc (.string g.s) (fun w1 hw1 => ?_) ?_
   ·
    have m2 : w1.cell? ⟨b, o + 2, none⟩ = some (.string g.s) := (hw1.cell (p := ⟨b, o + 2, none⟩) (by first | (simp; done) | (simp; omega))).trans n2
    go_simp
   go_simp; go_big_quiet_on
   go_big_quiet_want; refine zc (.pointer (some ⟨w.heap.size, 3, none⟩)) (fun w1 hw1 => ?_) ?_
   ·
    go_simp
   go_simp; go_big_quiet_on
   go_big_quiet_want; refine zc (.slice (some ⟨b, o, none⟩) N c) (fun w1 hw1 => ?_) ?_
   ·
    have m4 : w1.cell? ⟨w.heap.size, 3, none⟩ = some (.slice (some ⟨b, o, none⟩) N c) := (hw1.cell (p := ⟨w.heap.size, 3, none⟩) (by first | (simp; done) | (simp; omega))).trans n4
    go_simp
   go_simp; go_big_quiet_on
   go_big_quiet_want; refine zc (.pointer (some ⟨b, o, none⟩)) (fun w1 hw1 => ?_) ?_
   ·
    go_simp
   go_simp; go_big_quiet_on
   go_big_quiet_want; refine zc (.agg #[.int .i64 gk, .int .i64 g.n, .string g.s, .slice A' L' c']) (fun w1 hw1 => ?_) ?_
   ·
    have m0 : w1.cell? ⟨b, o, none⟩ = some (.int .i64 gk) := (hw1.cell (p := ⟨b, o, none⟩) (by first | (simp; done) | (simp; omega))).trans n0
    have m1 : w1.cell? ⟨b, o + 1, none⟩ = some (.int .i64 g.n) := (hw1.cell (p := ⟨b, o + 1, none⟩) (by first | (simp; done) | (simp; omega))).trans n1
    have m2 : w1.cell? ⟨b, o + 2, none⟩ = some (.string g.s) := (hw1.cell (p := ⟨b, o + 2, none⟩) (by first | (simp; done) | (simp; omega))).trans n2
    have m3 : w1.cell? ⟨b, o + 3, none⟩ = some (.slice A' L' c') := (hw1.cell (p := ⟨b, o + 3, none⟩) (by first | (simp; done) | (simp; omega))).trans n3
    go_simp
   go_simp; go_big_quiet_on
   go_big_quiet_want; refine zs (.bool false) 61 #[.agg #[.int .i64 gk, .int .i64 g.n, .string g.s, .slice A' L' c']] (fun w1 hw1 => ?_) (fun w1 hw1 => (KN.out w1 (Below.trans ((Below.refl _ _).alloc (Nat.le_refl _) _) (hw1.mono (by first | exact Nat.le_succ _ | (simp; done) | (simp; omega))))).mono ?_) ?_
   ·
    go_simp
   ·
    rintro e w2 ⟨rfl, hb2⟩; exact ⟨rfl, Below.trans hw1 (hb2.mono hw1.size)⟩
   go_simp; go_big_quiet_on
   go_big_quiet_want; go_big_quiet_op; go_big_quiet_on
   go_big_quiet_skip
   go_big_quiet_skip
   go_big_quiet_skip
   go_big_quiet_want; refine zc (.bool false) (fun w1 hw1 => ?_) ?_
   ·
    go_simp
   go_simp; go_big_quiet_on
   go_big_quiet_want; go_big_quiet_op; go_big_quiet_on
   go_big_quiet_want; go_big_quiet_op; go_big_quiet_on
   refine wpQuiet_nil ?_
   intro w5 hw5
   have HB5 := Lib.hid (show Below w.heap.size w w5 from Below.trans ((Below.refl _ _).alloc (Nat.le_refl _) _) (hw5.mono (by first | exact Nat.le_succ _ | (simp; done) | (simp; omega))))
   clear hw5
   go_wp2_with fail
   exact bodyPost_ret (v := .tuple #[.string g.s, .bool false]) (by simp [results, Tryd.results39, go_sem]) rfl ⟨_, rfl, HB5.out⟩
  by_cases h2 : (2 : Int) <= (M : Int)
  ·
   rw [if_pos ⟨rfl, HM3.out.1 h2⟩]
   have n0 : (w.alloc (.cells #[.int .i64 4, .int .i64 h.n, .string h.s, .slice (some ⟨b, o, none⟩) N c] 38)).cell? ⟨b, o, none⟩ = some (.int .i64 gk) := (World.cell?_alloc_lt _ _ ⟨b, o, none⟩ hbw).trans d0
   have n1 : (w.alloc (.cells #[.int .i64 4, .int .i64 h.n, .string h.s, .slice (some ⟨b, o, none⟩) N c] 38)).cell? ⟨b, o + 1, none⟩ = some (.int .i64 g.n) := (World.cell?_alloc_lt _ _ ⟨b, o + 1, none⟩ hbw).trans d1
   have n2 : (w.alloc (.cells #[.int .i64 4, .int .i64 h.n, .string h.s, .slice (some ⟨b, o, none⟩) N c] 38)).cell? ⟨b, o + 2, none⟩ = some (.string g.s) := (World.cell?_alloc_lt _ _ ⟨b, o + 2, none⟩ hbw).trans d2
   have n3 : (w.alloc (.cells #[.int .i64 4, .int .i64 h.n, .string h.s, .slice (some ⟨b, o, none⟩) N c] 38)).cell? ⟨b, o + 3, none⟩ = some (.slice A' L' c') := (World.cell?_alloc_lt _ _ ⟨b, o + 3, none⟩ hbw).trans d3
   have n4 : (w.alloc (.cells #[.int .i64 4, .int .i64 h.n, .string h.s, .slice (some ⟨b, o, none⟩) N c] 38)).cell? ⟨w.heap.size, 3, none⟩ = some (.slice (some ⟨b, o, none⟩) N c) := za _ _ _ 3
   go_enter Tryd.func39, Tryd.ntmps39
   go_upto_region 3 with fail
   refine zq (fun w' => Below (w.alloc (.cells #[.int .i64 4, .int .i64 h.n, .string h.s, .slice (some ⟨b, o, none⟩) N c] 38)).heap.size (w.alloc (.cells #[.int .i64 4, .int .i64 h.n, .string h.s, .slice (some ⟨b, o, none⟩) N c] 38)) w') (by kernel_rfl) (by kernel_rfl) (Below.refl _ _).drew ?_
   go_big_quiet_want; refine zc (.pointer (some ⟨w.heap.size, 3, none⟩)) (fun w1 hw1 => ?_) ?_
   ·
    go_simp
   go_simp; go_big_quiet_on
   go_big_quiet_want; refine zc (.slice (some ⟨b, o, none⟩) N c) (fun w1 hw1 => ?_) ?_
   ·
    have m4 : w1.cell? ⟨w.heap.size, 3, none⟩ = some (.slice (some ⟨b, o, none⟩) N c) := (hw1.cell (p := ⟨w.heap.size, 3, none⟩) (by first | (simp; done) | (simp; omega))).trans n4
    go_simp
   go_simp; go_big_quiet_on
   go_big_quiet_want; refine zc (.pointer (some ⟨b, o, none⟩)) (fun w1 hw1 => ?_) ?_
   ·
    go_simp
   go_simp; go_big_quiet_on
   go_big_quiet_want; refine zc (.pointer (some ⟨b, o + 2, none⟩)) (fun w1 hw1 => ?_) ?_
   ·
    go_simp
   go_simp; go_big_quiet_on
   go_big_quiet_want; refine zc (.string g.s) (fun w1 hw1 => ?_) ?_
   ·
    have m2 : w1.cell? ⟨b, o + 2, none⟩ = some (.string g.s) := (hw1.cell (p := ⟨b, o + 2, none⟩) (by first | (simp; done) | (simp; omega))).trans n2
    go_simp
   go_simp; go_big_quiet_on
   go_big_quiet_want; refine zc (.pointer (some ⟨w.heap.size, 3, none⟩)) (fun w1 hw1 => ?_) ?_
   ·
    go_simp
   go_simp; go_big_quiet_on
   go_big_quiet_want; refine zc (.slice (some ⟨b, o, none⟩) N c) (fun w1 hw1 => ?_) ?_
   ·
    have m4 : w1.cell? ⟨w.heap.size, 3, none⟩ = some (.slice (some ⟨b, o, none⟩) N c) := (hw1.cell (p := ⟨w.heap.size, 3, none⟩) (by first | (simp; done) | (simp; omega))).trans n4
    go_simp
   go_simp; go_big_quiet_on
   go_big_quiet_want; refine zc (.pointer (some ⟨b, o, none⟩)) (fun w1 hw1 => ?_) ?_
   ·
    go_simp
   go_simp; go_big_quiet_on
   go_big_quiet_want; refine zc (.agg #[.int .i64 gk, .int .i64 g.n, .string g.s, .slice A' L' c']) (fun w1 hw1 => ?_) ?_
   ·
    have m0 : w1.cell? ⟨b, o, none⟩ = some (.int .i64 gk) := (hw1.cell (p := ⟨b, o, none⟩) (by first | (simp; done) | (simp; omega))).trans n0
    have m1 : w1.cell? ⟨b, o + 1, none⟩ = some (.int .i64 g.n) := (hw1.cell (p := ⟨b, o + 1, none⟩) (by first | (simp; done) | (simp; omega))).trans n1
    have m2 : w1.cell? ⟨b, o + 2, none⟩ = some (.string g.s) := (hw1.cell (p := ⟨b, o + 2, none⟩) (by first | (simp; done) | (simp; omega))).trans n2
    have m3 : w1.cell? ⟨b, o + 3, none⟩ = some (.slice A' L' c') := (hw1.cell (p := ⟨b, o + 3, none⟩) (by first | (simp; done) | (simp; omega))).trans n3
    go_simp
   go_simp; go_big_quiet_on
   go_big_quiet_want; refine zs (.bool true) 61 #[.agg #[.int .i64 gk, .int .i64 g.n, .string g.s, .slice A' L' c']] (fun w1 hw1 => ?_) (fun w1 hw1 => (KN.out w1 (Below.trans ((Below.refl _ _).alloc (Nat.le_refl _) _) (hw1.mono (by first | exact Nat.le_succ _ | (simp; done) | (simp; omega))))).mono ?_) ?_
   ·
    go_simp
   ·
    rintro e w2 ⟨rfl, hb2⟩; exact ⟨rfl, Below.trans hw1 (hb2.mono hw1.size)⟩
   go_simp; go_big_quiet_on
   go_big_quiet_want; go_big_quiet_op; go_big_quiet_on
   go_big_quiet_want; refine zc (.slice (some ⟨p, q, none⟩) M bc) (fun w1 hw1 => ?_) ?_
   ·
    go_simp
   go_simp; go_big_quiet_on
   go_big_quiet_want; refine zc (.int .i64 M) (fun w1 hw1 => ?_) ?_
   ·
    go_simp
   go_simp; go_big_quiet_on
   go_big_quiet_want; refine zc (.bool true) (fun w1 hw1 => ?_) ?_
   ·
    go_simp
   go_simp; go_big_quiet_on
   go_big_quiet_want; refine zc (.bool true) (fun w1 hw1 => ?_) ?_
   ·
    go_simp
   go_simp; go_big_quiet_on
   go_big_quiet_want; go_big_quiet_op; go_big_quiet_on
   go_big_quiet_want; go_big_quiet_op; go_big_quiet_on
   refine wpQuiet_nil ?_
   intro w5 hw5
   have HB5 := Lib.hid (show Below w.heap.size w w5 from Below.trans ((Below.refl _ _).alloc (Nat.le_refl _) _) (hw5.mono (by first | exact Nat.le_succ _ | (simp; done) | (simp; omega))))
   clear hw5
   go_wp2_with fail
   exact bodyPost_ret (v := .tuple #[.string g.s, .bool true]) (by simp [results, Tryd.results39, go_sem]) rfl ⟨rfl, HB5.out⟩
  rw [if_neg (fun hh => h2 (HM3.out.2 hh.2))]
  have n0 : (w.alloc (.cells #[.int .i64 4, .int .i64 h.n, .string h.s, .slice (some ⟨b, o, none⟩) N c] 38)).cell? ⟨b, o, none⟩ = some (.int .i64 gk) := (World.cell?_alloc_lt _ _ ⟨b, o, none⟩ hbw).trans d0
  have n1 : (w.alloc (.cells #[.int .i64 4, .int .i64 h.n, .string h.s, .slice (some ⟨b, o, none⟩) N c] 38)).cell? ⟨b, o + 1, none⟩ = some (.int .i64 g.n) := (World.cell?_alloc_lt _ _ ⟨b, o + 1, none⟩ hbw).trans d1
  have n2 : (w.alloc (.cells #[.int .i64 4, .int .i64 h.n, .string h.s, .slice (some ⟨b, o, none⟩) N c] 38)).cell? ⟨b, o + 2, none⟩ = some (.string g.s) := (World.cell?_alloc_lt _ _ ⟨b, o + 2, none⟩ hbw).trans d2
  have n3 : (w.alloc (.cells #[.int .i64 4, .int .i64 h.n, .string h.s, .slice (some ⟨b, o, none⟩) N c] 38)).cell? ⟨b, o + 3, none⟩ = some (.slice A' L' c') := (World.cell?_alloc_lt _ _ ⟨b, o + 3, none⟩ hbw).trans d3
  have n4 : (w.alloc (.cells #[.int .i64 4, .int .i64 h.n, .string h.s, .slice (some ⟨b, o, none⟩) N c] 38)).cell? ⟨w.heap.size, 3, none⟩ = some (.slice (some ⟨b, o, none⟩) N c) := za _ _ _ 3
  go_enter Tryd.func39, Tryd.ntmps39
  go_upto_region 3 with fail
  refine zq (fun w' => Below (w.alloc (.cells #[.int .i64 4, .int .i64 h.n, .string h.s, .slice (some ⟨b, o, none⟩) N c] 38)).heap.size (w.alloc (.cells #[.int .i64 4, .int .i64 h.n, .string h.s, .slice (some ⟨b, o, none⟩) N c] 38)) w') (by kernel_rfl) (by kernel_rfl) (Below.refl _ _).drew ?_
  go_big_quiet_want; refine zc (.pointer (some ⟨w.heap.size, 3, none⟩)) (fun w1 hw1 => ?_) ?_
  ·
   go_simp
  go_simp; go_big_quiet_on
  go_big_quiet_want; refine zc (.slice (some ⟨b, o, none⟩) N c) (fun w1 hw1 => ?_) ?_
  ·
   have m4 : w1.cell? ⟨w.heap.size, 3, none⟩ = some (.slice (some ⟨b, o, none⟩) N c) := (hw1.cell (p := ⟨w.heap.size, 3, none⟩) (by first | (simp; done) | (simp; omega))).trans n4
   go_simp
  go_simp; go_big_quiet_on
  go_big_quiet_want; refine zc (.pointer (some ⟨b, o, none⟩)) (fun w1 hw1 => ?_) ?_
  ·
   go_simp
  go_simp; go_big_quiet_on
  go_big_quiet_want; refine zc (.pointer (some ⟨b, o + 2, none⟩)) (fun w1 hw1 => ?_) ?_
  ·
   go_simp
  go_simp; go_big_quiet_on
  go_big_quiet_want; refine zc (.string g.s) (fun w1 hw1 => ?_) ?_
  ·
   have m2 : w1.cell? ⟨b, o + 2, none⟩ = some (.string g.s) := (hw1.cell (p := ⟨b, o + 2, none⟩) (by first | (simp; done) | (simp; omega))).trans n2
   go_simp
  go_simp; go_big_quiet_on
  go_big_quiet_want; refine zc (.pointer (some ⟨w.heap.size, 3, none⟩)) (fun w1 hw1 => ?_) ?_
  ·
   go_simp
  go_simp; go_big_quiet_on
  go_big_quiet_want; refine zc (.slice (some ⟨b, o, none⟩) N c) (fun w1 hw1 => ?_) ?_
  ·
   have m4 : w1.cell? ⟨w.heap.size, 3, none⟩ = some (.slice (some ⟨b, o, none⟩) N c) := (hw1.cell (p := ⟨w.heap.size, 3, none⟩) (by first | (simp; done) | (simp; omega))).trans n4
   go_simp
  go_simp; go_big_quiet_on
  go_big_quiet_want; refine zc (.pointer (some ⟨b, o, none⟩)) (fun w1 hw1 => ?_) ?_
  ·
   go_simp
  go_simp; go_big_quiet_on
  go_big_quiet_want; refine zc (.agg #[.int .i64 gk, .int .i64 g.n, .string g.s, .slice A' L' c']) (fun w1 hw1 => ?_) ?_
  ·
   have m0 : w1.cell? ⟨b, o, none⟩ = some (.int .i64 gk) := (hw1.cell (p := ⟨b, o, none⟩) (by first | (simp; done) | (simp; omega))).trans n0
   have m1 : w1.cell? ⟨b, o + 1, none⟩ = some (.int .i64 g.n) := (hw1.cell (p := ⟨b, o + 1, none⟩) (by first | (simp; done) | (simp; omega))).trans n1
   have m2 : w1.cell? ⟨b, o + 2, none⟩ = some (.string g.s) := (hw1.cell (p := ⟨b, o + 2, none⟩) (by first | (simp; done) | (simp; omega))).trans n2
   have m3 : w1.cell? ⟨b, o + 3, none⟩ = some (.slice A' L' c') := (hw1.cell (p := ⟨b, o + 3, none⟩) (by first | (simp; done) | (simp; omega))).trans n3
   go_simp
  go_simp; go_big_quiet_on
  go_big_quiet_want; refine zs (.bool true) 61 #[.agg #[.int .i64 gk, .int .i64 g.n, .string g.s, .slice A' L' c']] (fun w1 hw1 => ?_) (fun w1 hw1 => (KN.out w1 (Below.trans ((Below.refl _ _).alloc (Nat.le_refl _) _) (hw1.mono (by first | exact Nat.le_succ _ | (simp; done) | (simp; omega))))).mono ?_) ?_
  ·
   go_simp
  ·
   rintro e w2 ⟨rfl, hb2⟩; exact ⟨rfl, Below.trans hw1 (hb2.mono hw1.size)⟩
  go_simp; go_big_quiet_on
  go_big_quiet_want; go_big_quiet_op; go_big_quiet_on
  go_big_quiet_want; refine zc (.slice (some ⟨p, q, none⟩) M bc) (fun w1 hw1 => ?_) ?_
  ·
   go_simp
  go_simp; go_big_quiet_on
  go_big_quiet_want; refine zc (.int .i64 M) (fun w1 hw1 => ?_) ?_
  ·
   go_simp
  go_simp; go_big_quiet_on
  go_big_quiet_want; refine zc (.bool false) (fun w1 hw1 => ?_) ?_
  ·
   go_simp
  go_simp; go_big_quiet_on
  go_big_quiet_want; refine zc (.bool false) (fun w1 hw1 => ?_) ?_
  ·
   go_simp
  go_simp; go_big_quiet_on
  go_big_quiet_want; go_big_quiet_op; go_big_quiet_on
  go_big_quiet_want; go_big_quiet_op; go_big_quiet_on
  refine wpQuiet_nil ?_
  intro w5 hw5
  have HB5 := Lib.hid (show Below w.heap.size w w5 from Below.trans ((Below.refl _ _).alloc (Nat.le_refl _) _) (hw5.mono (by first | exact Nat.le_succ _ | (simp; done) | (simp; omega))))
  clear hw5
  go_wp2_with fail
  exact bodyPost_ret (v := .tuple #[.string g.s, .bool false]) (by simp [results, Tryd.results39, go_sem]) rfl ⟨_, rfl, HB5.out⟩
 have h5 : (hk == 4) = false := by simpa using h4
 rw [def_name (by rw [HHK.out]; exact h4)]
 have hM3 : ((M : Int) = 2) ↔ rest.length = 1 := by rw [HML.out]; omega
 have HM3 := Lib.hid hM3
 clear h4 hM3
 cases hb : bindB h
 all_goals
  have KN := Lib.hid (fun w' (hbl : Below w.heap.size w w') => name_at hb A h.l.length c w' HGD.out.wide (HM.out.below hbl))
  rw [HHK.out, HN.out] at KN
  clear hb
 ·
  rw [if_neg (by simp)]
  have n0 : (w.alloc (.cells #[.int .i64 hk, .int .i64 h.n, .string h.s, .slice A N c] 38)).cell? ⟨w.heap.size, 0, none⟩ = some (.int .i64 hk) := za _ _ _ 0
  have n1 : (w.alloc (.cells #[.int .i64 hk, .int .i64 h.n, .string h.s, .slice A N c] 38)).cell? ⟨w.heap.size, 1, none⟩ = some (.int .i64 h.n) := za _ _ _ 1
  have n2 : (w.alloc (.cells #[.int .i64 hk, .int .i64 h.n, .string h.s, .slice A N c] 38)).cell? ⟨w.heap.size, 2, none⟩ = some (.string h.s) := za _ _ _ 2
  have n3 : (w.alloc (.cells #[.int .i64 hk, .int .i64 h.n, .string h.s, .slice A N c] 38)).cell? ⟨w.heap.size, 3, none⟩ = some (.slice A N c) := za _ _ _ 3
  go_enter Tryd.func39, Tryd.ntmps39
  go_upto_region 4 with fail
  refine zq (fun w' => Below (w.alloc (.cells #[.int .i64 hk, .int .i64 h.n, .string h.s, .slice A N c] 38)).heap.size (w.alloc (.cells #[.int .i64 hk, .int .i64 h.n, .string h.s, .slice A N c] 38)) w') (by kernel_rfl) (by kernel_rfl) (Below.refl _ _).drew ?_
  go_big_quiet_want; refine zc (.pointer (some ⟨w.heap.size, 2, none⟩)) (fun w1 hw1 => ?_) ?_
  ·
   go_simp
  go_simp; go_big_quiet_on
  go_big_quiet_want; refine zc (.string h.s) (fun w1 hw1 => ?_) ?_
  ·
   have m2 : w1.cell? ⟨w.heap.size, 2, none⟩ = some (.string h.s) := (hw1.cell (p := ⟨w.heap.size, 2, none⟩) (by first | (simp; done) | (simp; omega))).trans n2
   go_simp
  go_simp; go_big_quiet_on
  go_big_quiet_want; refine zc (.agg #[.int .i64 hk, .int .i64 h.n, .string h.s, .slice A N c]) (fun w1 hw1 => ?_) ?_
  ·
   have m0 : w1.cell? ⟨w.heap.size, 0, none⟩ = some (.int .i64 hk) := (hw1.cell (p := ⟨w.heap.size, 0, none⟩) (by first | (simp; done) | (simp; omega))).trans n0
   have m1 : w1.cell? ⟨w.heap.size, 1, none⟩ = some (.int .i64 h.n) := (hw1.cell (p := ⟨w.heap.size, 1, none⟩) (by first | (simp; done) | (simp; omega))).trans n1
   have m2 : w1.cell? ⟨w.heap.size, 2, none⟩ = some (.string h.s) := (hw1.cell (p := ⟨w.heap.size, 2, none⟩) (by first | (simp; done) | (simp; omega))).trans n2
   have m3 : w1.cell? ⟨w.heap.size, 3, none⟩ = some (.slice A N c) := (hw1.cell (p := ⟨w.heap.size, 3, none⟩) (by first | (simp; done) | (simp; omega))).trans n3
   go_simp
  go_simp; go_big_quiet_on
  go_big_quiet_want; refine zs (.bool false) 61 #[.agg #[.int .i64 hk, .int .i64 h.n, .string h.s, .slice A N c]] (fun w1 hw1 => ?_) (fun w1 hw1 => (KN.out w1 (Below.trans ((Below.refl _ _).alloc (Nat.le_refl _) _) (hw1.mono (by first | exact Nat.le_succ _ | (simp; done) | (simp; omega))))).mono ?_) ?_
  ·
   go_simp
  ·
   rintro e w2 ⟨rfl, hb2⟩; exact ⟨rfl, Below.trans hw1 (hb2.mono hw1.size)⟩
  go_simp; go_big_quiet_on
  go_big_quiet_want; go_big_quiet_op; go_big_quiet_on
  go_big_quiet_skip
  go_big_quiet_skip
  go_big_quiet_skip
  go_big_quiet_want; refine zc (.bool false) (fun w1 hw1 => ?_) ?_
  ·
   go_simp
  go_simp; go_big_quiet_on
  go_big_quiet_want; go_big_quiet_op; go_big_quiet_on
  go_big_quiet_want; go_big_quiet_op; go_big_quiet_on
  refine wpQuiet_nil ?_
  intro w5 hw5
  have HB5 := Lib.hid (show Below w.heap.size w w5 from Below.trans ((Below.refl _ _).alloc (Nat.le_refl _) _) (hw5.mono (by first | exact Nat.le_succ _ | (simp; done) | (simp; omega))))
  clear hw5
  go_wp2_with fail
  exact bodyPost_ret (v := .tuple #[.string h.s, .bool false]) (by simp [results, Tryd.results39, go_sem]) rfl ⟨_, rfl, HB5.out⟩
 by_cases h2 : (M : Int) = 2
 ·
  rw [if_pos ⟨rfl, HM3.out.1 h2⟩]
  have h2b : ((M : Int) == 2) = true := by simpa using h2
  clear h2
  have n0 : (w.alloc (.cells #[.int .i64 hk, .int .i64 h.n, .string h.s, .slice A N c] 38)).cell? ⟨w.heap.size, 0, none⟩ = some (.int .i64 hk) := za _ _ _ 0
  have n1 : (w.alloc (.cells #[.int .i64 hk, .int .i64 h.n, .string h.s, .slice A N c] 38)).cell? ⟨w.heap.size, 1, none⟩ = some (.int .i64 h.n) := za _ _ _ 1
  have n2 : (w.alloc (.cells #[.int .i64 hk, .int .i64 h.n, .string h.s, .slice A N c] 38)).cell? ⟨w.heap.size, 2, none⟩ = some (.string h.s) := za _ _ _ 2
  have n3 : (w.alloc (.cells #[.int .i64 hk, .int .i64 h.n, .string h.s, .slice A N c] 38)).cell? ⟨w.heap.size, 3, none⟩ = some (.slice A N c) := za _ _ _ 3
  go_enter Tryd.func39, Tryd.ntmps39
  go_upto_region 4 with fail
  refine zq (fun w' => Below (w.alloc (.cells #[.int .i64 hk, .int .i64 h.n, .string h.s, .slice A N c] 38)).heap.size (w.alloc (.cells #[.int .i64 hk, .int .i64 h.n, .string h.s, .slice A N c] 38)) w') (by kernel_rfl) (by kernel_rfl) (Below.refl _ _).drew ?_
  go_big_quiet_want; refine zc (.pointer (some ⟨w.heap.size, 2, none⟩)) (fun w1 hw1 => ?_) ?_
  ·
   go_simp
  go_simp; go_big_quiet_on
  go_big_quiet_want; refine zc (.string h.s) (fun w1 hw1 => ?_) ?_
  ·
   have m2 : w1.cell? ⟨w.heap.size, 2, none⟩ = some (.string h.s) := (hw1.cell (p := ⟨w.heap.size, 2, none⟩) (by first | (simp; done) | (simp; omega))).trans n2
   go_simp
  go_simp; go_big_quiet_on
  go_big_quiet_want; refine zc (.agg #[.int .i64 hk, .int .i64 h.n, .string h.s, .slice A N c]) (fun w1 hw1 => ?_) ?_
  ·
   have m0 : w1.cell? ⟨w.heap.size, 0, none⟩ = some (.int .i64 hk) := (hw1.cell (p := ⟨w.heap.size, 0, none⟩) (by first | (simp; done) | (simp; omega))).trans n0
   have m1 : w1.cell? ⟨w.heap.size, 1, none⟩ = some (.int .i64 h.n) := (hw1.cell (p := ⟨w.heap.size, 1, none⟩) (by first | (simp; done) | (simp; omega))).trans n1
   have m2 : w1.cell? ⟨w.heap.size, 2, none⟩ = some (.string h.s) := (hw1.cell (p := ⟨w.heap.size, 2, none⟩) (by first | (simp; done) | (simp; omega))).trans n2
   have m3 : w1.cell? ⟨w.heap.size, 3, none⟩ = some (.slice A N c) := (hw1.cell (p := ⟨w.heap.size, 3, none⟩) (by first | (simp; done) | (simp; omega))).trans n3
   go_simp
  go_simp; go_big_quiet_on
  go_big_quiet_want; refine zs (.bool true) 61 #[.agg #[.int .i64 hk, .int .i64 h.n, .string h.s, .slice A N c]] (fun w1 hw1 => ?_) (fun w1 hw1 => (KN.out w1 (Below.trans ((Below.refl _ _).alloc (Nat.le_refl _) _) (hw1.mono (by first | exact Nat.le_succ _ | (simp; done) | (simp; omega))))).mono ?_) ?_
  ·
   go_simp
  ·
   rintro e w2 ⟨rfl, hb2⟩; exact ⟨rfl, Below.trans hw1 (hb2.mono hw1.size)⟩
  go_simp; go_big_quiet_on
  go_big_quiet_want; go_big_quiet_op; go_big_quiet_on
  go_big_quiet_want; refine zc (.slice (some ⟨p, q, none⟩) M bc) (fun w1 hw1 => ?_) ?_
  ·
   go_simp
  go_simp; go_big_quiet_on
  go_big_quiet_want; refine zc (.int .i64 M) (fun w1 hw1 => ?_) ?_
  ·
   go_simp
  go_simp; go_big_quiet_on
  go_big_quiet_want; refine zc (.bool true) (fun w1 hw1 => ?_) ?_
  ·
   go_simp
  go_simp; go_big_quiet_on
  go_big_quiet_want; refine zc (.bool true) (fun w1 hw1 => ?_) ?_
  ·
   go_simp
  go_simp; go_big_quiet_on
  go_big_quiet_want; go_big_quiet_op; go_big_quiet_on
  go_big_quiet_want; go_big_quiet_op; go_big_quiet_on
  refine wpQuiet_nil ?_
  intro w5 hw5
  have HB5 := Lib.hid (show Below w.heap.size w w5 from Below.trans ((Below.refl _ _).alloc (Nat.le_refl _) _) (hw5.mono (by first | exact Nat.le_succ _ | (simp; done) | (simp; omega))))
  clear hw5
  go_wp2_with fail
  exact bodyPost_ret (v := .tuple #[.string h.s, .bool true]) (by simp [results, Tryd.results39, go_sem]) rfl ⟨rfl, HB5.out⟩
 rw [if_neg (fun hh => h2 (HM3.out.2 hh.2))]
 have h2b : ((M : Int) == 2) = false := by simpa using h2
 clear h2
 have n0 : (w.alloc (.cells #[.int .i64 hk, .int .i64 h.n, .string h.s, .slice A N c] 38)).cell? ⟨w.heap.size, 0, none⟩ = some (.int .i64 hk) := za _ _ _ 0
 have n1 : (w.alloc (.cells #[.int .i64 hk, .int .i64 h.n, .string h.s, .slice A N c] 38)).cell? ⟨w.heap.size, 1, none⟩ = some (.int .i64 h.n) := za _ _ _ 1
 have n2 : (w.alloc (.cells #[.int .i64 hk, .int .i64 h.n, .string h.s, .slice A N c] 38)).cell? ⟨w.heap.size, 2, none⟩ = some (.string h.s) := za _ _ _ 2
 have n3 : (w.alloc (.cells #[.int .i64 hk, .int .i64 h.n, .string h.s, .slice A N c] 38)).cell? ⟨w.heap.size, 3, none⟩ = some (.slice A N c) := za _ _ _ 3
 go_enter Tryd.func39, Tryd.ntmps39
 go_upto_region 4 with fail
 refine zq (fun w' => Below (w.alloc (.cells #[.int .i64 hk, .int .i64 h.n, .string h.s, .slice A N c] 38)).heap.size (w.alloc (.cells #[.int .i64 hk, .int .i64 h.n, .string h.s, .slice A N c] 38)) w') (by kernel_rfl) (by kernel_rfl) (Below.refl _ _).drew ?_
 go_big_quiet_want; refine zc (.pointer (some ⟨w.heap.size, 2, none⟩)) (fun w1 hw1 => ?_) ?_
 ·
  go_simp
 go_simp; go_big_quiet_on
 go_big_quiet_want; refine zc (.string h.s) (fun w1 hw1 => ?_) ?_
 ·
  have m2 : w1.cell? ⟨w.heap.size, 2, none⟩ = some (.string h.s) := (hw1.cell (p := ⟨w.heap.size, 2, none⟩) (by first | (simp; done) | (simp; omega))).trans n2
  go_simp
 go_simp; go_big_quiet_on
 go_big_quiet_want; refine zc (.agg #[.int .i64 hk, .int .i64 h.n, .string h.s, .slice A N c]) (fun w1 hw1 => ?_) ?_
 ·
  have m0 : w1.cell? ⟨w.heap.size, 0, none⟩ = some (.int .i64 hk) := (hw1.cell (p := ⟨w.heap.size, 0, none⟩) (by first | (simp; done) | (simp; omega))).trans n0
  have m1 : w1.cell? ⟨w.heap.size, 1, none⟩ = some (.int .i64 h.n) := (hw1.cell (p := ⟨w.heap.size, 1, none⟩) (by first | (simp; done) | (simp; omega))).trans n1
  have m2 : w1.cell? ⟨w.heap.size, 2, none⟩ = some (.string h.s) := (hw1.cell (p := ⟨w.heap.size, 2, none⟩) (by first | (simp; done) | (simp; omega))).trans n2
  have m3 : w1.cell? ⟨w.heap.size, 3, none⟩ = some (.slice A N c) := (hw1.cell (p := ⟨w.heap.size, 3, none⟩) (by first | (simp; done) | (simp; omega))).trans n3
  go_simp
 go_simp; go_big_quiet_on
 go_big_quiet_want; refine zs (.bool true) 61 #[.agg #[.int .i64 hk, .int .i64 h.n, .string h.s, .slice A N c]] (fun w1 hw1 => ?_) (fun w1 hw1 => (KN.out w1 (Below.trans ((Below.refl _ _).alloc (Nat.le_refl _) _) (hw1.mono (by first | exact Nat.le_succ _ | (simp; done) | (simp; omega))))).mono ?_) ?_
 ·
  go_simp
 ·
  rintro e w2 ⟨rfl, hb2⟩; exact ⟨rfl, Below.trans hw1 (hb2.mono hw1.size)⟩
 go_simp; go_big_quiet_on
 go_big_quiet_want; go_big_quiet_op; go_big_quiet_on
 go_big_quiet_want; refine zc (.slice (some ⟨p, q, none⟩) M bc) (fun w1 hw1 => ?_) ?_
 ·
  go_simp
 go_simp; go_big_quiet_on
 go_big_quiet_want; refine zc (.int .i64 M) (fun w1 hw1 => ?_) ?_
 ·
  go_simp
 go_simp; go_big_quiet_on
 go_big_quiet_want; refine zc (.bool false) (fun w1 hw1 => ?_) ?_
 ·
  go_simp
 go_simp; go_big_quiet_on
 go_big_quiet_want; refine zc (.bool false) (fun w1 hw1 => ?_) ?_
 ·
  go_simp
 go_simp; go_big_quiet_on
 go_big_quiet_want; go_big_quiet_op; go_big_quiet_on
 go_big_quiet_want; go_big_quiet_op; go_big_quiet_on
 refine wpQuiet_nil ?_
 intro w5 hw5
 have HB5 := Lib.hid (show Below w.heap.size w w5 from Below.trans ((Below.refl _ _).alloc (Nat.le_refl _) _) (hw5.mono (by first | exact Nat.le_succ _ | (simp; done) | (simp; omega))))
 clear hw5
 go_wp2_with fail
 exact bodyPost_ret (v := .tuple #[.string h.s, .bool false]) (by simp [results, Tryd.results39, go_sem]) rfl ⟨_, rfl, HB5.out⟩
end Go.Proofs.YtjmeodadkjcmmaaDoor
