import Derived.Test.YtfhbdlobhjegcaaGreatDoorQk
namespace Go.Proofs.YtfhbdlobhjegcaaGreatDoor
open Go.RowKit Go.ChangeShapes Go.WideShapes Go.Deep Go.ChangeAt
set_option linter.unusedVariables false
set_option maxRecDepth 20000
def OnePost (c : EC) (pc : Int) (st : List Wd) (hp : Hp) (fu : Int) (e : Ending) (w' : World) : Prop := e = .returned (.int .i64 0) /\ ∃ A' len' cap' v', Eng c w' pc st hp fu A' len' cap' v'
section
variable {c : EC} {w : World} {pc : Int} {st : List Wd} {hp : Hp} {fu : Int} {A : Option Addr} {len cap : Nat} {v : Value}
set_option maxHeartbeats 2000000 in
theorem one_tick (k : c.Ok) (h : Eng c w pc st hp fu A len cap v) (hfu : 1 <= fu /\ fu <= 20000) : Calls Tryz.prog 51 #[.pointer (some ⟨c.G, 0, none⟩), tickI.agg] w (OnePost c pc st hp (fu - 1)) := by
 unfold IV.agg tickI noW
 obtain ⟨wb, hwb⟩ : ∃ wb, (w.alloc (.cells #[.int .i64 1, .int .i64 0, .int .i64 0, .string ⟨#[]⟩, .string ⟨#[]⟩, .int .i64 0, .int .i64 0, .string ⟨#[]⟩] 51)).alloc (.cells #[.int .i64 0, .int .i64 0, .string ⟨#[]⟩] 49) = wb := ⟨_, rfl⟩
 have hb : Below w.heap.size w wb := by rw [<- hwb]; exact ((Below.refl _ _).alloc (Nat.le_refl _) _).alloc (by simp) _
 have i0 : wb.cell? ⟨w.heap.size, 0, none⟩ = some (.int .i64 1) := by rw [<- hwb]; exact cell_first _ _ _ _ _ 0
 have i1 : wb.cell? ⟨w.heap.size, 1, none⟩ = some (.int .i64 0) := by rw [<- hwb]; exact cell_first _ _ _ _ _ 1
 have i3 : wb.cell? ⟨w.heap.size, 3, none⟩ = some (.string ⟨#[]⟩) := by rw [<- hwb]; exact cell_first _ _ _ _ _ 3
 have i5 : wb.cell? ⟨w.heap.size, 5, none⟩ = some (.int .i64 0) := by rw [<- hwb]; exact cell_first _ _ _ _ _ 5
 have i6 : wb.cell? ⟨w.heap.size, 6, none⟩ = some (.int .i64 0) := by rw [<- hwb]; exact cell_first _ _ _ _ _ 6
 have i7 : wb.cell? ⟨w.heap.size, 7, none⟩ = some (.string ⟨#[]⟩) := by rw [<- hwb]; exact cell_first _ _ _ _ _ 7
 have n0 : wb.cell? ⟨w.heap.size + 1, 0, none⟩ = some (.int .i64 0) := by rw [<- hwb]; exact cell_second _ _ _ _ _ 0
 have n1 : wb.cell? ⟨w.heap.size + 1, 1, none⟩ = some (.int .i64 0) := by rw [<- hwb]; exact cell_second _ _ _ _ _ 1
 have n2 : wb.cell? ⟨w.heap.size + 1, 2, none⟩ = some (.string ⟨#[]⟩) := by rw [<- hwb]; exact cell_second _ _ _ _ _ 2
 have nf : ∀ j, wb.frozen? ⟨w.heap.size + 1, j, none⟩ = false := by intro j; rw [<- hwb]; simp
 have f0 := nf 0
 have f1 := nf 1
 have f2 := nf 2
 have hlt : w.heap.size + 1 < wb.heap.size := by rw [<- hwb]; simp
 have hlt0 : w.heap.size < wb.heap.size := by omega
 have hE := h.new k hb
 have HE := Lib.hid hE
 have HWB := Lib.hid hwb
 have HBW := Lib.hid hb
 have hbase := h.tur.size
 have hGw := h.ltG k
 have hTw := h.ltT k
 have hGb := hE.ltG k
 have hTb := hE.ltT k
 have HOWN := Lib.hid (show ∀ b, v.ownBlock = some b -> b < w.heap.size from fun b e => (h.ownB e).2)
 have HAPT := Lib.hid (show ∀ b, inSl A len b -> b < w.heap.size from fun b hb => h.heap.lt hb)
 clear h hwb hb
 go_enter Tryz.func51, Tryz.ntmps51
 go_upto_region 3 with fail
 rw [HWB.out]
 have g7 := hE.g7
 have g6 := hE.g6
 have gf6 := hE.gf 6
 have hf0 : ¬ fu = 0 := by omega
 have hf1 : -9223372036854775808 <= fu - 1 /\ fu - 1 <= 9223372036854775807 := by omega
 clear hE nf
 go_wp2_with fail
 go_ret
 exact ⟨rfl, _, _, _, _, HE.out.setFu k (fu - 1)⟩
set_option maxHeartbeats 2000000 in
theorem one_jump (k : c.Ok) (h : Eng c w pc st hp fu A len cap v) (m : Nat) : Calls Tryz.prog 51 #[.pointer (some ⟨c.G, 0, none⟩), (jumpI m).agg] w (OnePost c m st hp fu) := by
 unfold IV.agg jumpI noW
 simp only
 obtain ⟨wb, hwb⟩ : ∃ wb, (w.alloc (.cells #[.int .i64 15, .int .i64 m, .int .i64 0, .string ⟨#[]⟩, .string ⟨#[]⟩, .int .i64 0, .int .i64 0, .string ⟨#[]⟩] 51)).alloc (.cells #[.int .i64 0, .int .i64 0, .string ⟨#[]⟩] 49) = wb := ⟨_, rfl⟩
 have hb : Below w.heap.size w wb := by rw [<- hwb]; exact ((Below.refl _ _).alloc (Nat.le_refl _) _).alloc (by simp) _
 have i0 : wb.cell? ⟨w.heap.size, 0, none⟩ = some (.int .i64 15) := by rw [<- hwb]; exact cell_first _ _ _ _ _ 0
 have i1 : wb.cell? ⟨w.heap.size, 1, none⟩ = some (.int .i64 m) := by rw [<- hwb]; exact cell_first _ _ _ _ _ 1
 have i3 : wb.cell? ⟨w.heap.size, 3, none⟩ = some (.string ⟨#[]⟩) := by rw [<- hwb]; exact cell_first _ _ _ _ _ 3
 have i5 : wb.cell? ⟨w.heap.size, 5, none⟩ = some (.int .i64 0) := by rw [<- hwb]; exact cell_first _ _ _ _ _ 5
 have i6 : wb.cell? ⟨w.heap.size, 6, none⟩ = some (.int .i64 0) := by rw [<- hwb]; exact cell_first _ _ _ _ _ 6
 have i7 : wb.cell? ⟨w.heap.size, 7, none⟩ = some (.string ⟨#[]⟩) := by rw [<- hwb]; exact cell_first _ _ _ _ _ 7
 have n0 : wb.cell? ⟨w.heap.size + 1, 0, none⟩ = some (.int .i64 0) := by rw [<- hwb]; exact cell_second _ _ _ _ _ 0
 have n1 : wb.cell? ⟨w.heap.size + 1, 1, none⟩ = some (.int .i64 0) := by rw [<- hwb]; exact cell_second _ _ _ _ _ 1
 have n2 : wb.cell? ⟨w.heap.size + 1, 2, none⟩ = some (.string ⟨#[]⟩) := by rw [<- hwb]; exact cell_second _ _ _ _ _ 2
 have nf : ∀ j, wb.frozen? ⟨w.heap.size + 1, j, none⟩ = false := by intro j; rw [<- hwb]; simp
 have f0 := nf 0
 have f1 := nf 1
 have f2 := nf 2
 have hlt : w.heap.size + 1 < wb.heap.size := by rw [<- hwb]; simp
 have hlt0 : w.heap.size < wb.heap.size := by omega
 have hE := h.new k hb
 have HE := Lib.hid hE
 have HWB := Lib.hid hwb
 have HBW := Lib.hid hb
 have hbase := h.tur.size
 have hGw := h.ltG k
 have hTw := h.ltT k
 have hGb := hE.ltG k
 have hTb := hE.ltT k
 have HOWN := Lib.hid (show ∀ b, v.ownBlock = some b -> b < w.heap.size from fun b e => (h.ownB e).2)
 have HAPT := Lib.hid (show ∀ b, inSl A len b -> b < w.heap.size from fun b hb => h.heap.lt hb)
 clear h hwb hb
 go_enter Tryz.func51, Tryz.ntmps51
 go_upto_region 3 with fail
 rw [HWB.out]
 have KT := Lib.hid (show ∀ W : World, Below wb.heap.size wb W -> Calls Tryz.prog 50 #[.pointer (some ⟨c.G, 0, none⟩)] W (fun e w' => e = .returned (.pointer (some ⟨c.T, 0, none⟩)) /\ Below W.heap.size W w') from fun W hW => top_b (HE.out.new k hW).g5 k.ca1 k.ca2)
 clear hE nf
 go_wp2_with fail
 go_region_law (go_simp; go_at_call 50; refine (KT.out _ ?_).mono ?_; (first | exact (Below.refl _ _).drew | exact Below.refl _ _); rintro e w1 ⟨rfl, hb1⟩; have hb1' : Below wb.heap.size wb w1 := (by first | exact (Below.refl _ _).drew.trans hb1 | exact hb1); have hE1 := HE.out.new k hb1'; have i11 := (hb1'.cell (p := ⟨w.heap.size, 1, none⟩) hlt0).trans i1; have t11 := hE1.t1; have tf1 := hE1.tf 1; have HE1 := Lib.hid hE1; clear hb1 hb1' hE1)
 all_goals
  go_wp2_with fail
  go_ret
  exact ⟨rfl, _, _, _, _, HE1.out.setPc k m⟩
set_option maxHeartbeats 2000000 in
theorem one_const (k : c.Ok) (h : Eng c w pc st hp fu A len cap v) (hs : st.length <= 100000) (x : Wd) : Calls Tryz.prog 51 #[.pointer (some ⟨c.G, 0, none⟩), (constI x).agg] w (OnePost c pc (st ++ [x]) hp fu) := by
 obtain ⟨xk, xn, xs⟩ := x
 unfold IV.agg constI
 simp only
 obtain ⟨wb, hwb⟩ : ∃ wb, (w.alloc (.cells #[.int .i64 2, .int .i64 0, .int .i64 0, .string ⟨#[]⟩, .string ⟨#[]⟩, .int .i64 xk, .int .i64 xn, .string xs] 51)).alloc (.cells #[.int .i64 0, .int .i64 0, .string ⟨#[]⟩] 49) = wb := ⟨_, rfl⟩
 have hb : Below w.heap.size w wb := by rw [<- hwb]; exact ((Below.refl _ _).alloc (Nat.le_refl _) _).alloc (by simp) _
 have i0 : wb.cell? ⟨w.heap.size, 0, none⟩ = some (.int .i64 2) := by rw [<- hwb]; exact cell_first _ _ _ _ _ 0
 have i1 : wb.cell? ⟨w.heap.size, 1, none⟩ = some (.int .i64 0) := by rw [<- hwb]; exact cell_first _ _ _ _ _ 1
 have i3 : wb.cell? ⟨w.heap.size, 3, none⟩ = some (.string ⟨#[]⟩) := by rw [<- hwb]; exact cell_first _ _ _ _ _ 3
 have i5 : wb.cell? ⟨w.heap.size, 5, none⟩ = some (.int .i64 xk) := by rw [<- hwb]; exact cell_first _ _ _ _ _ 5
 have i6 : wb.cell? ⟨w.heap.size, 6, none⟩ = some (.int .i64 xn) := by rw [<- hwb]; exact cell_first _ _ _ _ _ 6
 have i7 : wb.cell? ⟨w.heap.size, 7, none⟩ = some (.string xs) := by rw [<- hwb]; exact cell_first _ _ _ _ _ 7
 have n0 : wb.cell? ⟨w.heap.size + 1, 0, none⟩ = some (.int .i64 0) := by rw [<- hwb]; exact cell_second _ _ _ _ _ 0
 have n1 : wb.cell? ⟨w.heap.size + 1, 1, none⟩ = some (.int .i64 0) := by rw [<- hwb]; exact cell_second _ _ _ _ _ 1
 have n2 : wb.cell? ⟨w.heap.size + 1, 2, none⟩ = some (.string ⟨#[]⟩) := by rw [<- hwb]; exact cell_second _ _ _ _ _ 2
 have nf : ∀ j, wb.frozen? ⟨w.heap.size + 1, j, none⟩ = false := by intro j; rw [<- hwb]; simp
 have f0 := nf 0
 have f1 := nf 1
 have f2 := nf 2
 have hlt : w.heap.size + 1 < wb.heap.size := by rw [<- hwb]; simp
 have hlt0 : w.heap.size < wb.heap.size := by omega
 have hE := h.new k hb
 have HE := Lib.hid hE
 have HWB := Lib.hid hwb
 have HBW := Lib.hid hb
 have hbase := h.tur.size
 have hGw := h.ltG k
 have hTw := h.ltT k
 have hGb := hE.ltG k
 have hTb := hE.ltT k
 have HOWN := Lib.hid (show ∀ b, v.ownBlock = some b -> b < w.heap.size from fun b e => (h.ownB e).2)
 have HAPT := Lib.hid (show ∀ b, inSl A len b -> b < w.heap.size from fun b hb => h.heap.lt hb)
 clear h hwb hb
 go_enter Tryz.func51, Tryz.ntmps51
 go_upto_region 3 with fail
 rw [HWB.out]
 have S0 := Lib.hid (set3_0 (u0 := .int .i64 xk) (u1 := .int .i64 xn) (u2 := .string xs) n0)
 have S1 := Lib.hid (set3_1 (u0 := .int .i64 xk) (u1 := .int .i64 xn) (u2 := .string xs) n1)
 have S2 := Lib.hid (set3_2 (u0 := .int .i64 xk) (u1 := .int .i64 xn) (u2 := .string xs) n2)
 have HEG := Lib.hid (HE.out.other k (grown_set3 wb (w.heap.size + 1) (.int .i64 xk) (.int .i64 xn) (.string xs)) (by omega) (fun e => by have h1 := HOWN.out _ e; omega) (fun q hq e => by have h1 := HAPT.out q hq; omega))
 clear hE nf
 go_upto_region 100 with fail
 obtain ⟨w8, hw8⟩ : ∃ w8, (((wb.setCell ⟨w.heap.size + 1, 0, none⟩ (.int .i64 xk)).setCell ⟨w.heap.size + 1, 1, none⟩ (.int .i64 xn)).setCell ⟨w.heap.size + 1, 2, none⟩ (.string xs)) = w8 := ⟨_, rfl⟩
 have s0 := S0.out
 have s1 := S1.out
 have s2 := S2.out
 rw [hw8] at HEG s0 s1 s2 ⊢
 clear hw8
 go_wp2_with fail
 refine (give_any k HEG.out (by omega) ⟨xk, xn, xs⟩).mono ?_
 rintro e w9 ⟨rfl, v9, hE9⟩
 have HE9 := Lib.hid hE9
 clear hE9
 go_wp2_with fail
 go_ret
 exact ⟨rfl, _, _, _, _, HE9.out⟩
set_option maxHeartbeats 2000000 in
theorem one_local (k : c.Ok) (h : Eng c w pc st hp fu A len cap v) (hs : st.length <= 100000) (i : Nat) (x : Wd) (hi : c.L[i]? = some x) : Calls Tryz.prog 51 #[.pointer (some ⟨c.G, 0, none⟩), (localI i).agg] w (OnePost c pc (st ++ [x]) hp fu) := by
 obtain ⟨xk, xn, xs⟩ := x
 unfold IV.agg localI noW
 simp only
 obtain ⟨wb, hwb⟩ : ∃ wb, (w.alloc (.cells #[.int .i64 3, .int .i64 i, .int .i64 0, .string ⟨#[]⟩, .string ⟨#[]⟩, .int .i64 0, .int .i64 0, .string ⟨#[]⟩] 51)).alloc (.cells #[.int .i64 0, .int .i64 0, .string ⟨#[]⟩] 49) = wb := ⟨_, rfl⟩
 have hb : Below w.heap.size w wb := by rw [<- hwb]; exact ((Below.refl _ _).alloc (Nat.le_refl _) _).alloc (by simp) _
 have i0 : wb.cell? ⟨w.heap.size, 0, none⟩ = some (.int .i64 3) := by rw [<- hwb]; exact cell_first _ _ _ _ _ 0
 have i1 : wb.cell? ⟨w.heap.size, 1, none⟩ = some (.int .i64 i) := by rw [<- hwb]; exact cell_first _ _ _ _ _ 1
 have i3 : wb.cell? ⟨w.heap.size, 3, none⟩ = some (.string ⟨#[]⟩) := by rw [<- hwb]; exact cell_first _ _ _ _ _ 3
 have i5 : wb.cell? ⟨w.heap.size, 5, none⟩ = some (.int .i64 0) := by rw [<- hwb]; exact cell_first _ _ _ _ _ 5
 have i6 : wb.cell? ⟨w.heap.size, 6, none⟩ = some (.int .i64 0) := by rw [<- hwb]; exact cell_first _ _ _ _ _ 6
 have i7 : wb.cell? ⟨w.heap.size, 7, none⟩ = some (.string ⟨#[]⟩) := by rw [<- hwb]; exact cell_first _ _ _ _ _ 7
 have n0 : wb.cell? ⟨w.heap.size + 1, 0, none⟩ = some (.int .i64 0) := by rw [<- hwb]; exact cell_second _ _ _ _ _ 0
 have n1 : wb.cell? ⟨w.heap.size + 1, 1, none⟩ = some (.int .i64 0) := by rw [<- hwb]; exact cell_second _ _ _ _ _ 1
 have n2 : wb.cell? ⟨w.heap.size + 1, 2, none⟩ = some (.string ⟨#[]⟩) := by rw [<- hwb]; exact cell_second _ _ _ _ _ 2
 have nf : ∀ j, wb.frozen? ⟨w.heap.size + 1, j, none⟩ = false := by intro j; rw [<- hwb]; simp
 have f0 := nf 0
 have f1 := nf 1
 have f2 := nf 2
 have hlt : w.heap.size + 1 < wb.heap.size := by rw [<- hwb]; simp
 have hlt0 : w.heap.size < wb.heap.size := by omega
 have hE := h.new k hb
 have HE := Lib.hid hE
 have HWB := Lib.hid hwb
 have HBW := Lib.hid hb
 have hbase := h.tur.size
 have hGw := h.ltG k
 have hTw := h.ltT k
 have hGb := hE.ltG k
 have hTb := hE.ltT k
 have HOWN := Lib.hid (show ∀ b, v.ownBlock = some b -> b < w.heap.size from fun b e => (h.ownB e).2)
 have HAPT := Lib.hid (show ∀ b, inSl A len b -> b < w.heap.size from fun b hb => h.heap.lt hb)
 clear h hwb hb
 go_enter Tryz.func51, Tryz.ntmps51
 go_upto_region 3 with fail
 rw [HWB.out]
 have KT := Lib.hid (show ∀ W : World, Below wb.heap.size wb W -> Calls Tryz.prog 50 #[.pointer (some ⟨c.G, 0, none⟩)] W (fun e w' => e = .returned (.pointer (some ⟨c.T, 0, none⟩)) /\ Below W.heap.size W w') from fun W hW => top_b (HE.out.new k hW).g5 k.ca1 k.ca2)
 obtain ⟨bl, ol, hAL, hbl, hil, d0, d1, d2⟩ := (k.loc wb hE.tur).nth hi
 simp only at d0 d1 d2
 have hcl := (k.loc wb hE.tur).cap_
 have hle := (k.loc wb hE.tur).le
 have hcl2 : c.cl <= 9223372036854775807 := by unfold maxLen at hcl; omega
 have hi0 : (0 : Int) <= (i : Int) := Int.natCast_nonneg _
 have hic : (i : Int) < (c.cl : Int) := by omega
 have t5 := hE.t5
 rw [hAL] at t5
 clear hE hcl
 go_wp2_with fail
 go_region_law (go_simp; go_at_call 50; refine (KT.out _ ?_).mono ?_; (first | exact (Below.refl _ _).drew | exact Below.refl _ _); rintro e w1 ⟨rfl, hb1⟩; have hb1' : Below wb.heap.size wb w1 := (by first | exact (Below.refl _ _).drew.trans hb1 | exact hb1); have i11 := (hb1'.cell (p := ⟨w.heap.size, 1, none⟩) hlt0).trans i1; have t51 := (hb1'.cell (p := ⟨c.T, 5, none⟩) hTb).trans t5; have e0 := (hb1'.cell (p := ⟨bl, ol + i * 3, none⟩) hbl).trans d0; have e1 := (hb1'.cell (p := ⟨bl, ol + i * 3 + 1, none⟩) hbl).trans d1; have e2 := (hb1'.cell (p := ⟨bl, ol + i * 3 + 2, none⟩) hbl).trans d2; have m0 := (hb1'.cell (p := ⟨w.heap.size + 1, 0, none⟩) hlt).trans n0; have m1 := (hb1'.cell (p := ⟨w.heap.size + 1, 1, none⟩) hlt).trans n1; have m2 := (hb1'.cell (p := ⟨w.heap.size + 1, 2, none⟩) hlt).trans n2; have q0 := (hb1'.frozen (p := ⟨w.heap.size + 1, 0, none⟩) hlt).trans (nf 0); have q1 := (hb1'.frozen (p := ⟨w.heap.size + 1, 1, none⟩) hlt).trans (nf 1); have q2 := (hb1'.frozen (p := ⟨w.heap.size + 1, 2, none⟩) hlt).trans (nf 2); have HE1 := Lib.hid (HE.out.new k hb1'); have hsb := hb1'.size; clear hb1 hb1')
 all_goals
  have S0 := Lib.hid (set3_0 (u0 := .int .i64 xk) (u1 := .int .i64 xn) (u2 := .string xs) m0)
  have S1 := Lib.hid (set3_1 (u0 := .int .i64 xk) (u1 := .int .i64 xn) (u2 := .string xs) m1)
  have S2 := Lib.hid (set3_2 (u0 := .int .i64 xk) (u1 := .int .i64 xn) (u2 := .string xs) m2)
  have HEG := Lib.hid (HE1.out.other k (grown_set3 w1 (w.heap.size + 1) (.int .i64 xk) (.int .i64 xn) (.string xs)) (by omega) (fun e => by have h1 := HOWN.out _ e; omega) (fun q hq e => by have h1 := HAPT.out q hq; omega))
  go_upto_region 100 with fail
  obtain ⟨w8, hw8⟩ : ∃ w8, (((w1.setCell ⟨w.heap.size + 1, 0, none⟩ (.int .i64 xk)).setCell ⟨w.heap.size + 1, 1, none⟩ (.int .i64 xn)).setCell ⟨w.heap.size + 1, 2, none⟩ (.string xs)) = w8 := ⟨_, rfl⟩
  have s0 := S0.out
  have s1 := S1.out
  have s2 := S2.out
  rw [hw8] at HEG s0 s1 s2 ⊢
  clear hw8
  go_wp2_with fail
  refine (give_any k HEG.out (by omega) ⟨xk, xn, xs⟩).mono ?_
  rintro e w9 ⟨rfl, v9, hE9⟩
  have HE9 := Lib.hid hE9
  clear hE9
  go_wp2_with fail
  go_ret
  exact ⟨rfl, _, _, _, _, HE9.out⟩
set_option maxHeartbeats 4000000 in
theorem one_else (k : c.Ok) (m : Nat) {x : Wd} (h : Eng c w pc (st ++ [x]) hp fu A len cap v) (hs : (st ++ [x]).length <= 100000) : Calls Tryz.prog 51 #[.pointer (some ⟨c.G, 0, none⟩), (elseI m).agg] w (OnePost c (if ((x.k == 2) && (x.n == 0)) = true then m else pc) st hp fu) := by
 obtain ⟨xk, xn, xs⟩ := x
 unfold IV.agg elseI noW
 simp only
 have hq : (((xk == 2) && (xn == 0)) = true /\ (xk == 2) = true /\ (xn == 0) = true) \/ (((xk == 2) && (xn == 0)) = false /\ (xk == 2) = false) \/ (((xk == 2) && (xn == 0)) = false /\ (xk == 2) = true /\ (xn == 0) = false) := by
  cases h1 : (xk == 2) <;> cases h2 : (xn == 0) <;> simp
 rcases hq with ⟨e1, e2, e3⟩ | ⟨e1, e2⟩ | ⟨e1, e2, e3⟩
 ·
  rw [e1]
  rw [if_pos rfl]
  clear e1
  obtain ⟨wb, hwb⟩ : ∃ wb, (w.alloc (.cells #[.int .i64 16, .int .i64 m, .int .i64 0, .string ⟨#[]⟩, .string ⟨#[]⟩, .int .i64 0, .int .i64 0, .string ⟨#[]⟩] 51)).alloc (.cells #[.int .i64 0, .int .i64 0, .string ⟨#[]⟩] 49) = wb := ⟨_, rfl⟩
  have hb : Below w.heap.size w wb := by rw [<- hwb]; exact ((Below.refl _ _).alloc (Nat.le_refl _) _).alloc (by simp) _
  have i0 : wb.cell? ⟨w.heap.size, 0, none⟩ = some (.int .i64 16) := by rw [<- hwb]; exact cell_first _ _ _ _ _ 0
  have i1 : wb.cell? ⟨w.heap.size, 1, none⟩ = some (.int .i64 m) := by rw [<- hwb]; exact cell_first _ _ _ _ _ 1
  have i3 : wb.cell? ⟨w.heap.size, 3, none⟩ = some (.string ⟨#[]⟩) := by rw [<- hwb]; exact cell_first _ _ _ _ _ 3
  have i5 : wb.cell? ⟨w.heap.size, 5, none⟩ = some (.int .i64 0) := by rw [<- hwb]; exact cell_first _ _ _ _ _ 5
  have i6 : wb.cell? ⟨w.heap.size, 6, none⟩ = some (.int .i64 0) := by rw [<- hwb]; exact cell_first _ _ _ _ _ 6
  have i7 : wb.cell? ⟨w.heap.size, 7, none⟩ = some (.string ⟨#[]⟩) := by rw [<- hwb]; exact cell_first _ _ _ _ _ 7
  have n0 : wb.cell? ⟨w.heap.size + 1, 0, none⟩ = some (.int .i64 0) := by rw [<- hwb]; exact cell_second _ _ _ _ _ 0
  have n1 : wb.cell? ⟨w.heap.size + 1, 1, none⟩ = some (.int .i64 0) := by rw [<- hwb]; exact cell_second _ _ _ _ _ 1
  have n2 : wb.cell? ⟨w.heap.size + 1, 2, none⟩ = some (.string ⟨#[]⟩) := by rw [<- hwb]; exact cell_second _ _ _ _ _ 2
  have nf : ∀ j, wb.frozen? ⟨w.heap.size + 1, j, none⟩ = false := by intro j; rw [<- hwb]; simp
  have f0 := nf 0
  have f1 := nf 1
  have f2 := nf 2
  have hlt : w.heap.size + 1 < wb.heap.size := by rw [<- hwb]; simp
  have hlt0 : w.heap.size < wb.heap.size := by omega
  have hE := h.new k hb
  have HE := Lib.hid hE
  have HWB := Lib.hid hwb
  have HBW := Lib.hid hb
  have hbase := h.tur.size
  have hGw := h.ltG k
  have hTw := h.ltT k
  have hGb := hE.ltG k
  have hTb := hE.ltT k
  have HOWN := Lib.hid (show ∀ b, v.ownBlock = some b -> b < w.heap.size from fun b e => (h.ownB e).2)
  have HAPT := Lib.hid (show ∀ b, inSl A len b -> b < w.heap.size from fun b hb => h.heap.lt hb)
  clear h hwb hb hE nf
  go_enter Tryz.func51, Tryz.ntmps51
  go_upto_region 3 with fail
  rw [HWB.out]
  go_wp2_with fail
  refine (take_any k HE.out hs (by simp) 1 rfl).mono ?_
  rintro e w1 ⟨Av, cv, v1, rfl, hwd, hnb, hE1, hg1, hv1⟩
  simp only [List.length_cons, List.length_nil, Nat.zero_add] at hwd ⊢
  obtain ⟨bv, ov, rfl, hbv, _, d0, d1, d2⟩ := hwd.nth (i := 0) (x := ⟨xk, xn, xs⟩) rfl
  simp only [Nat.zero_mul, Nat.add_zero] at d0 d1 d2
  have hcv := hwd.cap_
  have hlv := hwd.le
  have hcv2 : cv <= 9223372036854775807 := by unfold maxLen at hcv; omega
  have hcv0 : (0 : Int) < (cv : Int) := by omega
  have hh1 : w1.heap[w.heap.size]? = wb.heap[w.heap.size]? := hg1.block _ hlt0 (fun e => by have := Option.some.inj e; omega)
  have i11 := (World.cell?_of_block (a := ⟨w.heap.size, 1, none⟩) hh1).trans i1
  have hs1 := hg1.size
  have hlt1 : w.heap.size < w1.heap.size := Nat.lt_of_lt_of_le hlt0 hs1
  have HE1 := Lib.hid hE1
  clear hwd hnb hE1 hg1 hv1 hcv hh1
  have KT1 := Lib.hid (show ∀ W : World, Below w1.heap.size w1 W -> Calls Tryz.prog 50 #[.pointer (some ⟨c.G, 0, none⟩)] W (fun e w' => e = .returned (.pointer (some ⟨c.T, 0, none⟩)) /\ Below W.heap.size W w') from fun W hW => top_b (HE1.out.new k hW).g5 k.ca1 k.ca2)
  go_wp2_with fail
  go_region_law (go_simp; go_at_call 50; refine (KT1.out _ ?_).mono ?_; (first | exact (Below.refl _ _).drew | exact Below.refl _ _); rintro e w2 ⟨rfl, hb1⟩; have hb1' : Below w1.heap.size w1 w2 := (by first | exact (Below.refl _ _).drew.trans hb1 | exact hb1); have hE2 := HE1.out.new k hb1'; have i12 := (hb1'.cell (p := ⟨w.heap.size, 1, none⟩) hlt1).trans i11; have t11 := hE2.t1; have tf1 := hE2.tf 1; have HE2 := Lib.hid hE2; clear hb1 hb1' hE2)
  all_goals
   go_wp2_with fail
   go_ret
   exact ⟨rfl, _, _, _, _, HE2.out.setPc k m⟩
 ·
  rw [e1]
  rw [if_neg (by decide)]
  clear e1
  obtain ⟨wb, hwb⟩ : ∃ wb, (w.alloc (.cells #[.int .i64 16, .int .i64 m, .int .i64 0, .string ⟨#[]⟩, .string ⟨#[]⟩, .int .i64 0, .int .i64 0, .string ⟨#[]⟩] 51)).alloc (.cells #[.int .i64 0, .int .i64 0, .string ⟨#[]⟩] 49) = wb := ⟨_, rfl⟩
  have hb : Below w.heap.size w wb := by rw [<- hwb]; exact ((Below.refl _ _).alloc (Nat.le_refl _) _).alloc (by simp) _
  have i0 : wb.cell? ⟨w.heap.size, 0, none⟩ = some (.int .i64 16) := by rw [<- hwb]; exact cell_first _ _ _ _ _ 0
  have i1 : wb.cell? ⟨w.heap.size, 1, none⟩ = some (.int .i64 m) := by rw [<- hwb]; exact cell_first _ _ _ _ _ 1
  have i3 : wb.cell? ⟨w.heap.size, 3, none⟩ = some (.string ⟨#[]⟩) := by rw [<- hwb]; exact cell_first _ _ _ _ _ 3
  have i5 : wb.cell? ⟨w.heap.size, 5, none⟩ = some (.int .i64 0) := by rw [<- hwb]; exact cell_first _ _ _ _ _ 5
  have i6 : wb.cell? ⟨w.heap.size, 6, none⟩ = some (.int .i64 0) := by rw [<- hwb]; exact cell_first _ _ _ _ _ 6
  have i7 : wb.cell? ⟨w.heap.size, 7, none⟩ = some (.string ⟨#[]⟩) := by rw [<- hwb]; exact cell_first _ _ _ _ _ 7
  have n0 : wb.cell? ⟨w.heap.size + 1, 0, none⟩ = some (.int .i64 0) := by rw [<- hwb]; exact cell_second _ _ _ _ _ 0
  have n1 : wb.cell? ⟨w.heap.size + 1, 1, none⟩ = some (.int .i64 0) := by rw [<- hwb]; exact cell_second _ _ _ _ _ 1
  have n2 : wb.cell? ⟨w.heap.size + 1, 2, none⟩ = some (.string ⟨#[]⟩) := by rw [<- hwb]; exact cell_second _ _ _ _ _ 2
  have nf : ∀ j, wb.frozen? ⟨w.heap.size + 1, j, none⟩ = false := by intro j; rw [<- hwb]; simp
  have f0 := nf 0
  have f1 := nf 1
  have f2 := nf 2
  have hlt : w.heap.size + 1 < wb.heap.size := by rw [<- hwb]; simp
  have hlt0 : w.heap.size < wb.heap.size := by omega
  have hE := h.new k hb
  have HE := Lib.hid hE
  have HWB := Lib.hid hwb
  have HBW := Lib.hid hb
  have hbase := h.tur.size
  have hGw := h.ltG k
  have hTw := h.ltT k
  have hGb := hE.ltG k
  have hTb := hE.ltT k
  have HOWN := Lib.hid (show ∀ b, v.ownBlock = some b -> b < w.heap.size from fun b e => (h.ownB e).2)
  have HAPT := Lib.hid (show ∀ b, inSl A len b -> b < w.heap.size from fun b hb => h.heap.lt hb)
  clear h hwb hb hE nf
  go_enter Tryz.func51, Tryz.ntmps51
  go_upto_region 3 with fail
  rw [HWB.out]
  go_wp2_with fail
  refine (take_any k HE.out hs (by simp) 1 rfl).mono ?_
  rintro e w1 ⟨Av, cv, v1, rfl, hwd, hnb, hE1, hg1, hv1⟩
  simp only [List.length_cons, List.length_nil, Nat.zero_add] at hwd ⊢
  obtain ⟨bv, ov, rfl, hbv, _, d0, d1, d2⟩ := hwd.nth (i := 0) (x := ⟨xk, xn, xs⟩) rfl
  simp only [Nat.zero_mul, Nat.add_zero] at d0 d1 d2
  have hcv := hwd.cap_
  have hlv := hwd.le
  have hcv2 : cv <= 9223372036854775807 := by unfold maxLen at hcv; omega
  have hcv0 : (0 : Int) < (cv : Int) := by omega
  have hh1 : w1.heap[w.heap.size]? = wb.heap[w.heap.size]? := hg1.block _ hlt0 (fun e => by have := Option.some.inj e; omega)
  have i11 := (World.cell?_of_block (a := ⟨w.heap.size, 1, none⟩) hh1).trans i1
  have hs1 := hg1.size
  have hlt1 : w.heap.size < w1.heap.size := Nat.lt_of_lt_of_le hlt0 hs1
  have HE1 := Lib.hid hE1
  clear hwd hnb hE1 hg1 hv1 hcv hh1
  go_wp2_with fail
  go_ret
  exact ⟨rfl, _, _, _, _, HE1.out⟩
 rw [e1]
 rw [if_neg (by decide)]
 clear e1
 obtain ⟨wb, hwb⟩ : ∃ wb, (w.alloc (.cells #[.int .i64 16, .int .i64 m, .int .i64 0, .string ⟨#[]⟩, .string ⟨#[]⟩, .int .i64 0, .int .i64 0, .string ⟨#[]⟩] 51)).alloc (.cells #[.int .i64 0, .int .i64 0, .string ⟨#[]⟩] 49) = wb := ⟨_, rfl⟩
 have hb : Below w.heap.size w wb := by rw [<- hwb]; exact ((Below.refl _ _).alloc (Nat.le_refl _) _).alloc (by simp) _
 have i0 : wb.cell? ⟨w.heap.size, 0, none⟩ = some (.int .i64 16) := by rw [<- hwb]; exact cell_first _ _ _ _ _ 0
 have i1 : wb.cell? ⟨w.heap.size, 1, none⟩ = some (.int .i64 m) := by rw [<- hwb]; exact cell_first _ _ _ _ _ 1
 have i3 : wb.cell? ⟨w.heap.size, 3, none⟩ = some (.string ⟨#[]⟩) := by rw [<- hwb]; exact cell_first _ _ _ _ _ 3
 have i5 : wb.cell? ⟨w.heap.size, 5, none⟩ = some (.int .i64 0) := by rw [<- hwb]; exact cell_first _ _ _ _ _ 5
 have i6 : wb.cell? ⟨w.heap.size, 6, none⟩ = some (.int .i64 0) := by rw [<- hwb]; exact cell_first _ _ _ _ _ 6
 have i7 : wb.cell? ⟨w.heap.size, 7, none⟩ = some (.string ⟨#[]⟩) := by rw [<- hwb]; exact cell_first _ _ _ _ _ 7
 have n0 : wb.cell? ⟨w.heap.size + 1, 0, none⟩ = some (.int .i64 0) := by rw [<- hwb]; exact cell_second _ _ _ _ _ 0
 have n1 : wb.cell? ⟨w.heap.size + 1, 1, none⟩ = some (.int .i64 0) := by rw [<- hwb]; exact cell_second _ _ _ _ _ 1
 have n2 : wb.cell? ⟨w.heap.size + 1, 2, none⟩ = some (.string ⟨#[]⟩) := by rw [<- hwb]; exact cell_second _ _ _ _ _ 2
 have nf : ∀ j, wb.frozen? ⟨w.heap.size + 1, j, none⟩ = false := by intro j; rw [<- hwb]; simp
 have f0 := nf 0
 have f1 := nf 1
 have f2 := nf 2
 have hlt : w.heap.size + 1 < wb.heap.size := by rw [<- hwb]; simp
 have hlt0 : w.heap.size < wb.heap.size := by omega
 have hE := h.new k hb
 have HE := Lib.hid hE
 have HWB := Lib.hid hwb
 have HBW := Lib.hid hb
 have hbase := h.tur.size
 have hGw := h.ltG k
 have hTw := h.ltT k
 have hGb := hE.ltG k
 have hTb := hE.ltT k
 have HOWN := Lib.hid (show ∀ b, v.ownBlock = some b -> b < w.heap.size from fun b e => (h.ownB e).2)
 have HAPT := Lib.hid (show ∀ b, inSl A len b -> b < w.heap.size from fun b hb => h.heap.lt hb)
 clear h hwb hb hE nf
 go_enter Tryz.func51, Tryz.ntmps51
 go_upto_region 3 with fail
 rw [HWB.out]
 go_wp2_with fail
 refine (take_any k HE.out hs (by simp) 1 rfl).mono ?_
 rintro e w1 ⟨Av, cv, v1, rfl, hwd, hnb, hE1, hg1, hv1⟩
 simp only [List.length_cons, List.length_nil, Nat.zero_add] at hwd ⊢
 obtain ⟨bv, ov, rfl, hbv, _, d0, d1, d2⟩ := hwd.nth (i := 0) (x := ⟨xk, xn, xs⟩) rfl
 simp only [Nat.zero_mul, Nat.add_zero] at d0 d1 d2
 have hcv := hwd.cap_
 have hlv := hwd.le
 have hcv2 : cv <= 9223372036854775807 := by unfold maxLen at hcv; omega
 have hcv0 : (0 : Int) < (cv : Int) := by omega
 have hh1 : w1.heap[w.heap.size]? = wb.heap[w.heap.size]? := hg1.block _ hlt0 (fun e => by have := Option.some.inj e; omega)
 have i11 := (World.cell?_of_block (a := ⟨w.heap.size, 1, none⟩) hh1).trans i1
 have hs1 := hg1.size
 have hlt1 : w.heap.size < w1.heap.size := Nat.lt_of_lt_of_le hlt0 hs1
 have HE1 := Lib.hid hE1
 clear hwd hnb hE1 hg1 hv1 hcv hh1
 go_wp2_with fail
 go_ret
 exact ⟨rfl, _, _, _, _, HE1.out⟩
theorem fitV_err {n e : Int} (h : fitV n = .error e) : e ≠ 0 := by
 unfold fitV at h
 split at h
 ·
  cases h; decide
 cases h
theorem calcW_err {s : ByteArray} {a b e : Int} (hs : arP s = 2) (h1 : s ≠ sCons) (h2 : s ≠ sEqq) (h : calcW s a b = .error e) : e ≠ 0 := by
 have hf : ∀ n, fitW n = .error e -> e ≠ 0 := fun n h => by
  unfold fitW at h
  split at h
  ·
   cases h; decide
  cases h
 unfold arP at hs
 split at hs
 ·
  rename_i hm
  rcases hm with rfl | rfl | rfl | rfl | rfl | rfl | rfl | rfl | rfl
  ·
   exact hf _ (calcW_plus a b ▸ h)
  ·
   exact hf _ (calcW_minus a b ▸ h)
  ·
   rw [calcW_times] at h
   split at h
   ·
    cases h; decide
   exact hf _ h
  ·
   rw [calcW_quot] at h
   split at h
   ·
    cases h; decide
   exact hf _ h
  ·
   rw [calcW_rem] at h
   split at h
   ·
    cases h; decide
   exact hf _ h
  ·
   rw [calcW_eq] at h; cases h
  ·
   rw [calcW_lt] at h; cases h
  ·
   exact absurd rfl h1
  exact absurd rfl h2
 split at hs <;> cases hs
theorem primW_err {hp : Hp} {s : ByteArray} {l : List Wd} {er : Int} (ha : arP s = l.length) (h : primW hp s l = .error er) : er ≠ 0 := by
 unfold primW at h
 split at h
 ·
  rename_i a
  split at h
  ·
   split at h
   ·
    cases h
   cases h; decide
  split at h
  ·
   split at h
   ·
    cases h
   cases h; decide
  split at h
  ·
   cases h
  split at h
  ·
   cases h
  split at h
  ·
   cases h
  cases h; decide
 ·
  rename_i a b
  split at h
  ·
   cases h
  rename_i hc
  split at h
  ·
   cases h
  rename_i he
  split at h
  ·
   cases hq : calcW s a.n b.n with
   | ok x => rw [hq] at h; cases h
   | error x =>
    rw [hq] at h
    cases h
    exact calcW_err ha hc he hq
  cases h; decide
 cases h; decide
def OneEnd (c : EC) (pc : Int) (st : List Wd) (fu : Int) (r : Rs (Wd × Hp)) (e : Ending) (w' : World) : Prop := match r with
 | .ok (x, hp') => OnePost c pc (st ++ [x]) hp' fu e w'
 | .error er => e = .returned (.int .i64 er) /\ Tur c.w0 w' c.G c.T
set_option maxHeartbeats 4000000 in
theorem one_prim (k : c.Ok) {l : List Wd} (h : Eng c w pc (st ++ l) hp fu A len cap v) (hs : (st ++ l).length <= 100000) (hsm : len + 3 <= 60000) (hl : ∀ x ∈ l, WIn hp x) {s : ByteArray} {n : Nat} (hm : l.length = n) (ha : arP s = l.length) (h1 : 1 <= l.length) :
  Calls Tryz.prog 51 #[.pointer (some ⟨c.G, 0, none⟩), (primI s n).agg] w (OneEnd c pc st fu (primW hp s l)) := by
 unfold IV.agg primI noW
 simp only
 obtain ⟨m, hm2⟩ : ∃ m : Int, m = l.length := ⟨_, rfl⟩
 rw [show (n : Int) = m by omega]
 have HM2 := Lib.hid hm2
 clear hm2 hm
 cases hr : primW hp s l with
 | ok y =>
  obtain ⟨⟨xk, xn, xs⟩, hp'⟩ := y
  have HR := Lib.hid hr
  clear hr
  obtain ⟨wb, hwb⟩ : ∃ wb, (w.alloc (.cells #[.int .i64 18, .int .i64 m, .int .i64 0, .string s, .string ⟨#[]⟩, .int .i64 0, .int .i64 0, .string ⟨#[]⟩] 51)).alloc (.cells #[.int .i64 0, .int .i64 0, .string ⟨#[]⟩] 49) = wb := ⟨_, rfl⟩
  have hb : Below w.heap.size w wb := by rw [<- hwb]; exact ((Below.refl _ _).alloc (Nat.le_refl _) _).alloc (by simp) _
  have i0 : wb.cell? ⟨w.heap.size, 0, none⟩ = some (.int .i64 18) := by rw [<- hwb]; exact cell_first _ _ _ _ _ 0
  have i1 : wb.cell? ⟨w.heap.size, 1, none⟩ = some (.int .i64 m) := by rw [<- hwb]; exact cell_first _ _ _ _ _ 1
  have i3 : wb.cell? ⟨w.heap.size, 3, none⟩ = some (.string s) := by rw [<- hwb]; exact cell_first _ _ _ _ _ 3
  have i5 : wb.cell? ⟨w.heap.size, 5, none⟩ = some (.int .i64 0) := by rw [<- hwb]; exact cell_first _ _ _ _ _ 5
  have i6 : wb.cell? ⟨w.heap.size, 6, none⟩ = some (.int .i64 0) := by rw [<- hwb]; exact cell_first _ _ _ _ _ 6
  have i7 : wb.cell? ⟨w.heap.size, 7, none⟩ = some (.string ⟨#[]⟩) := by rw [<- hwb]; exact cell_first _ _ _ _ _ 7
  have n0 : wb.cell? ⟨w.heap.size + 1, 0, none⟩ = some (.int .i64 0) := by rw [<- hwb]; exact cell_second _ _ _ _ _ 0
  have n1 : wb.cell? ⟨w.heap.size + 1, 1, none⟩ = some (.int .i64 0) := by rw [<- hwb]; exact cell_second _ _ _ _ _ 1
  have n2 : wb.cell? ⟨w.heap.size + 1, 2, none⟩ = some (.string ⟨#[]⟩) := by rw [<- hwb]; exact cell_second _ _ _ _ _ 2
  have nf : ∀ j, wb.frozen? ⟨w.heap.size + 1, j, none⟩ = false := by intro j; rw [<- hwb]; simp
  have f0 := nf 0
  have f1 := nf 1
  have f2 := nf 2
  have hlt : w.heap.size + 1 < wb.heap.size := by rw [<- hwb]; simp
  have hlt0 : w.heap.size < wb.heap.size := by omega
  have hE := h.new k hb
  have HE := Lib.hid hE
  have HWB := Lib.hid hwb
  have HBW := Lib.hid hb
  have hbase := h.tur.size
  have hGw := h.ltG k
  have hTw := h.ltT k
  have hGb := hE.ltG k
  have hTb := hE.ltT k
  have HOWN := Lib.hid (show ∀ b, v.ownBlock = some b -> b < w.heap.size from fun b e => (h.ownB e).2)
  have HAPT := Lib.hid (show ∀ b, inSl A len b -> b < w.heap.size from fun b hb => h.heap.lt hb)
  clear h hwb hb
  go_enter Tryz.func51, Tryz.ntmps51
  go_upto_region 3 with fail
  rw [HWB.out]
  have NF := Lib.hid nf
  clear hE nf
  go_wp2_with fail
  refine (take_any k HE.out hs h1 m HM2.out).mono ?_
  rintro e w1 ⟨Av, cv, v1, rfl, hwd, hnb, hE1, hg1, hv1⟩
  have hh1 : w1.heap[w.heap.size]? = wb.heap[w.heap.size]? := hg1.block _ hlt0 (fun e => by have := Option.some.inj e; omega)
  have hh2 : w1.heap[w.heap.size + 1]? = wb.heap[w.heap.size + 1]? := hg1.block _ hlt (fun e => by have := Option.some.inj e; omega)
  have i31 := (World.cell?_of_block (a := ⟨w.heap.size, 3, none⟩) hh1).trans i3
  have b0 := (World.cell?_of_block (a := ⟨w.heap.size + 1, 0, none⟩) hh2).trans n0
  have b1 := (World.cell?_of_block (a := ⟨w.heap.size + 1, 1, none⟩) hh2).trans n1
  have b2 := (World.cell?_of_block (a := ⟨w.heap.size + 1, 2, none⟩) hh2).trans n2
  have bf : ∀ j, w1.frozen? ⟨w.heap.size + 1, j, none⟩ = false := fun j => (World.frozen?_of_block (a := ⟨w.heap.size + 1, j, none⟩) hh2).trans (NF.out j)
  have hs1 := hg1.size
  have hlt1 : w.heap.size + 1 < w1.heap.size := Nat.lt_of_lt_of_le hlt hs1
  have HV1 := Lib.hid (show ∀ b, v1.ownBlock = some b -> wb.heap.size <= b from hv1)
  have HP1 := Lib.hid (primOf_any k hE1 hsm hl ha h1 _ _ hwd)
  have HE1 := Lib.hid hE1
  clear hwd hnb hE1 hg1 hv1 hh1 hh2
  go_wp2_with fail
  refine HP1.out.mono ?_
  rintro e w2 ⟨hg2, hpost⟩
  have hh3 : w2.heap[w.heap.size + 1]? = w1.heap[w.heap.size + 1]? := hg2.block _ hlt1 (fun e => by have := Option.some.inj e; omega)
  have m0 := (World.cell?_of_block (a := ⟨w.heap.size + 1, 0, none⟩) hh3).trans b0
  have m1 := (World.cell?_of_block (a := ⟨w.heap.size + 1, 1, none⟩) hh3).trans b1
  have m2 := (World.cell?_of_block (a := ⟨w.heap.size + 1, 2, none⟩) hh3).trans b2
  have q0 := (World.frozen?_of_block (a := ⟨w.heap.size + 1, 0, none⟩) hh3).trans (bf 0)
  have q1 := (World.frozen?_of_block (a := ⟨w.heap.size + 1, 1, none⟩) hh3).trans (bf 1)
  have q2 := (World.frozen?_of_block (a := ⟨w.heap.size + 1, 2, none⟩) hh3).trans (bf 2)
  have hs2 := hg2.size
  have HTU := Lib.hid (HE1.out.tur.grown hg2 (fun b e => Or.inl (Option.some.inj e).symm))
  rw [HR.out] at hpost
  clear hg2 hh3
  obtain ⟨rfl, A2, len2, cap2, hE2, hn2⟩ := hpost
  simp only [Wd.agg]
  have S0 := Lib.hid (set3_0 (u0 := .int .i64 xk) (u1 := .int .i64 xn) (u2 := .string xs) m0)
  have S1 := Lib.hid (set3_1 (u0 := .int .i64 xk) (u1 := .int .i64 xn) (u2 := .string xs) m1)
  have S2 := Lib.hid (set3_2 (u0 := .int .i64 xk) (u1 := .int .i64 xn) (u2 := .string xs) m2)
  have hapart : ∀ q, inSl A2 len2 q -> q ≠ w.heap.size + 1 := by
   intro q hq e
   rcases hn2 q hq with h5 | h5
   ·
    have h6 := HAPT.out q h5
    omega
   omega
  have HEG := Lib.hid (hE2.other k (grown_set3 w2 (w.heap.size + 1) (.int .i64 xk) (.int .i64 xn) (.string xs)) (by omega) (fun e => by have h5 := HV1.out _ e; omega) hapart)
  clear hE2 hn2 hapart
  go_upto_region 100 with fail
  obtain ⟨w8, hw8⟩ : ∃ w8, (((w2.setCell ⟨w.heap.size + 1, 0, none⟩ (.int .i64 xk)).setCell ⟨w.heap.size + 1, 1, none⟩ (.int .i64 xn)).setCell ⟨w.heap.size + 1, 2, none⟩ (.string xs)) = w8 := ⟨_, rfl⟩
  have s0 := S0.out
  have s1 := S1.out
  have s2 := S2.out
  rw [hw8] at HEG s0 s1 s2 ⊢
  clear hw8
  go_wp2_with fail
  refine (give_any k HEG.out (by rw [List.length_append] at hs; omega) ⟨xk, xn, xs⟩).mono ?_
  rintro e w9 ⟨rfl, v9, hE9⟩
  have HE9 := Lib.hid hE9
  clear hE9
  go_wp2_with fail
  go_ret
  exact ⟨rfl, _, _, _, _, HE9.out⟩
 | error er =>
  have HER := Lib.hid (show ∀ e, er = e -> ¬ e = 0 from fun e he => he ▸ primW_err ha hr)
  have HR := Lib.hid hr
  clear hr
  obtain ⟨wb, hwb⟩ : ∃ wb, (w.alloc (.cells #[.int .i64 18, .int .i64 m, .int .i64 0, .string s, .string ⟨#[]⟩, .int .i64 0, .int .i64 0, .string ⟨#[]⟩] 51)).alloc (.cells #[.int .i64 0, .int .i64 0, .string ⟨#[]⟩] 49) = wb := ⟨_, rfl⟩
  have hb : Below w.heap.size w wb := by rw [<- hwb]; exact ((Below.refl _ _).alloc (Nat.le_refl _) _).alloc (by simp) _
  have i0 : wb.cell? ⟨w.heap.size, 0, none⟩ = some (.int .i64 18) := by rw [<- hwb]; exact cell_first _ _ _ _ _ 0
  have i1 : wb.cell? ⟨w.heap.size, 1, none⟩ = some (.int .i64 m) := by rw [<- hwb]; exact cell_first _ _ _ _ _ 1
  have i3 : wb.cell? ⟨w.heap.size, 3, none⟩ = some (.string s) := by rw [<- hwb]; exact cell_first _ _ _ _ _ 3
  have i5 : wb.cell? ⟨w.heap.size, 5, none⟩ = some (.int .i64 0) := by rw [<- hwb]; exact cell_first _ _ _ _ _ 5
  have i6 : wb.cell? ⟨w.heap.size, 6, none⟩ = some (.int .i64 0) := by rw [<- hwb]; exact cell_first _ _ _ _ _ 6
  have i7 : wb.cell? ⟨w.heap.size, 7, none⟩ = some (.string ⟨#[]⟩) := by rw [<- hwb]; exact cell_first _ _ _ _ _ 7
  have n0 : wb.cell? ⟨w.heap.size + 1, 0, none⟩ = some (.int .i64 0) := by rw [<- hwb]; exact cell_second _ _ _ _ _ 0
  have n1 : wb.cell? ⟨w.heap.size + 1, 1, none⟩ = some (.int .i64 0) := by rw [<- hwb]; exact cell_second _ _ _ _ _ 1
  have n2 : wb.cell? ⟨w.heap.size + 1, 2, none⟩ = some (.string ⟨#[]⟩) := by rw [<- hwb]; exact cell_second _ _ _ _ _ 2
  have nf : ∀ j, wb.frozen? ⟨w.heap.size + 1, j, none⟩ = false := by intro j; rw [<- hwb]; simp
  have f0 := nf 0
  have f1 := nf 1
  have f2 := nf 2
  have hlt : w.heap.size + 1 < wb.heap.size := by rw [<- hwb]; simp
  have hlt0 : w.heap.size < wb.heap.size := by omega
  have hE := h.new k hb
  have HE := Lib.hid hE
  have HWB := Lib.hid hwb
  have HBW := Lib.hid hb
  have hbase := h.tur.size
  have hGw := h.ltG k
  have hTw := h.ltT k
  have hGb := hE.ltG k
  have hTb := hE.ltT k
  have HOWN := Lib.hid (show ∀ b, v.ownBlock = some b -> b < w.heap.size from fun b e => (h.ownB e).2)
  have HAPT := Lib.hid (show ∀ b, inSl A len b -> b < w.heap.size from fun b hb => h.heap.lt hb)
  clear h hwb hb
  go_enter Tryz.func51, Tryz.ntmps51
  go_upto_region 3 with fail
  rw [HWB.out]
  have NF := Lib.hid nf
  clear hE nf
  go_wp2_with fail
  refine (take_any k HE.out hs h1 m HM2.out).mono ?_
  rintro e w1 ⟨Av, cv, v1, rfl, hwd, hnb, hE1, hg1, hv1⟩
  have hh1 : w1.heap[w.heap.size]? = wb.heap[w.heap.size]? := hg1.block _ hlt0 (fun e => by have := Option.some.inj e; omega)
  have hh2 : w1.heap[w.heap.size + 1]? = wb.heap[w.heap.size + 1]? := hg1.block _ hlt (fun e => by have := Option.some.inj e; omega)
  have i31 := (World.cell?_of_block (a := ⟨w.heap.size, 3, none⟩) hh1).trans i3
  have b0 := (World.cell?_of_block (a := ⟨w.heap.size + 1, 0, none⟩) hh2).trans n0
  have b1 := (World.cell?_of_block (a := ⟨w.heap.size + 1, 1, none⟩) hh2).trans n1
  have b2 := (World.cell?_of_block (a := ⟨w.heap.size + 1, 2, none⟩) hh2).trans n2
  have bf : ∀ j, w1.frozen? ⟨w.heap.size + 1, j, none⟩ = false := fun j => (World.frozen?_of_block (a := ⟨w.heap.size + 1, j, none⟩) hh2).trans (NF.out j)
  have hs1 := hg1.size
  have hlt1 : w.heap.size + 1 < w1.heap.size := Nat.lt_of_lt_of_le hlt hs1
  have HV1 := Lib.hid (show ∀ b, v1.ownBlock = some b -> wb.heap.size <= b from hv1)
  have HP1 := Lib.hid (primOf_any k hE1 hsm hl ha h1 _ _ hwd)
  have HE1 := Lib.hid hE1
  clear hwd hnb hE1 hg1 hv1 hh1 hh2
  go_wp2_with fail
  refine HP1.out.mono ?_
  rintro e w2 ⟨hg2, hpost⟩
  have hh3 : w2.heap[w.heap.size + 1]? = w1.heap[w.heap.size + 1]? := hg2.block _ hlt1 (fun e => by have := Option.some.inj e; omega)
  have m0 := (World.cell?_of_block (a := ⟨w.heap.size + 1, 0, none⟩) hh3).trans b0
  have m1 := (World.cell?_of_block (a := ⟨w.heap.size + 1, 1, none⟩) hh3).trans b1
  have m2 := (World.cell?_of_block (a := ⟨w.heap.size + 1, 2, none⟩) hh3).trans b2
  have q0 := (World.frozen?_of_block (a := ⟨w.heap.size + 1, 0, none⟩) hh3).trans (bf 0)
  have q1 := (World.frozen?_of_block (a := ⟨w.heap.size + 1, 1, none⟩) hh3).trans (bf 1)
  have q2 := (World.frozen?_of_block (a := ⟨w.heap.size + 1, 2, none⟩) hh3).trans (bf 2)
  have hs2 := hg2.size
  have HTU := Lib.hid (HE1.out.tur.grown hg2 (fun b e => Or.inl (Option.some.inj e).symm))
  rw [HR.out] at hpost
  clear hg2 hh3
  have hpost : e = .returned (.tuple #[noW.agg, .int .i64 er]) := hpost
  subst hpost
  simp only [Wd.agg, noW]
  have HTF := Lib.hid (HTU.out.grown (grown_set3 w2 (w.heap.size + 1) (.int .i64 0) (.int .i64 0) (.string ⟨#[]⟩)) (fun b e => Or.inr (Or.inr (by have := Option.some.inj e; omega))))
  have her : ¬ er = 0 := HER.out er rfl
  go_wp2_with fail
  go_ret
  exact ⟨rfl, HTF.out⟩
end
end Go.Proofs.YtfhbdlobhjegcaaGreatDoor
