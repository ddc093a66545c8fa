import Derived.Test.YtfhbdlobhjegcaaGreatDoorQj
import Derived.Laws.StructEq
namespace Go.Proofs.YtfhbdlobhjegcaaGreatDoor
open Go.RowKit Go.ChangeShapes Go.WideShapes Go.Deep Go.ChangeAt
set_option linter.unusedVariables false
set_option maxRecDepth 20000
def PrimPost (c : EC) (w : World) (pc : Int) (st : List Wd) (fu : Int) (A : Option Addr) (len : Nat) (v : Value) (r : Rs (Wd × Hp)) (e : Ending) (w' : World) : Prop :=
 w.grownBy w' (some c.G) /\ match r with
 | .ok (x, hp') => e = .returned (.tuple #[x.agg, .int .i64 0]) /\ ∃ A' len' cap', Eng c w' pc st hp' fu A' len' cap' v /\ ∀ b, inSl A' len' b -> inSl A len b \/ w.heap.size <= b
 | .error er => e = .returned (.tuple #[noW.agg, .int .i64 er])
def PrimSays (c : EC) (w : World) (pc : Int) (st : List Wd) (hp : Hp) (fu : Int) (A : Option Addr) (len : Nat) (v : Value) (s : ByteArray) (l : List Wd) : Prop :=
 ∀ Al cl, WdsAt w Al l.length cl l -> Calls Tryz.prog 79 #[.pointer (some ⟨c.G, 0, none⟩), .string s, .slice Al l.length cl] w (PrimPost c w pc st fu A len v (primW hp s l))
theorem WIn.head {hp : Hp} {a : Wd} (h : WIn hp a) : (isPW a = true /\ headW a = pairW) \/ (isPW a = false /\ headW a = noW) := by
 rcases h with h | ⟨i, hi, rfl⟩
 ·
  have h5 := h.not5
  right
  unfold isPW headW
  exact ⟨by simpa using h5, if_neg h5⟩
 left
 refine ⟨rfl, ?_⟩
 unfold headW
 rw [if_pos rfl, if_neg (by show ¬ pAt i = 0; unfold pAt; omega)]
theorem WIn.pair {hp : Hp} {a : Wd} (h : WIn hp a) (hP : isPW a = true) : ∃ i, ∃ hi : i < hp.length, a = ⟨5, pAt i, ⟨#[]⟩⟩ := by
 rcases h with h | ⟨i, hi, e⟩
 ·
  exact absurd hP (by unfold isPW; have h5 := h.not5; simpa using h5)
 exact ⟨i, hi, e⟩
theorem structWord : Tryz.prog.underlying 49 = some (.struct (Tryz.prog.fieldsOf 49)) := by kernel_rfl
theorem heldWord : Tryz.prog.stoodInHeld 49 = false := by kernel_rfl
theorem bytes_eq {s t : ByteArray} (h : s.toList = t.toList) : s = t := by
 rw [ByteArray.toList_eq, ByteArray.toList_eq] at h
 obtain ⟨⟨s⟩⟩ := s
 obtain ⟨⟨t⟩⟩ := t
 simp at h
 rw [h]
theorem eqWord (d : Nat) (a b : Wd) (w : World) : (Op.equalIn (d + 1 + 1) 49 a.agg b.agg).run Tryz.prog w = .ok (sameW a b) w := by
 have u3 := Tryz.underlying3
 have a3 := Tryz.isAgg3
 have z3 := Tryz.sizeOf3
 have u9 := Tryz.underlying9
 have a9 := Tryz.isAgg9
 have z9 := Tryz.sizeOf9
 obtain ⟨k, n, s⟩ := a
 obtain ⟨k', n', s'⟩ := b
 unfold Wd.agg sameW
 simp only
 rw [run_equalIn_agg w (d + 1) 49 _ _ structWord heldWord]
 simp only [Program.fieldsOf, Tryz.underlying49]
 go_simp
 by_cases hk : k = k'
 ·
  by_cases hn : n = n'
  ·
   by_cases hs : s = s'
   ·
    subst hk hn hs
    simp
   have hs2 : ¬ s.toList = s'.toList := fun h => hs (bytes_eq h)
   rw [if_pos hk, if_pos hn, if_neg hs2, decide_eq_false hs]
   simp
  rw [if_pos hk, if_neg hn, show (n == n') = false by simpa using hn]
  simp
 rw [if_neg hk, show (k == k') = false by simpa using hk]
 simp
theorem eqlWord (a b : Wd) (w : World) : (binOp .eql 49 a.agg b.agg).run Tryz.prog w = .ok (.bool (sameW a b)) w := by
 have h := eqWord 9998 a b w
 unfold Wd.agg at h ⊢
 rw [run_eql_struct, show (10000 : Nat) = 9998 + 1 + 1 from rfl, h]
 rfl
theorem field_word (k n : Int) (s : ByteArray) : ∀ W : World, (Instr.field 49 (.agg #[.int .i64 k, .int .i64 n, .string s]) 0).run Tryz.prog W = .ok (.int .i64 k) W := fun _ => by kernel_rfl
section
variable {c : EC} {w : World} {pc : Int} {st : List Wd} {hp : Hp} {fu : Int} {A : Option Addr} {len cap : Nat} {v : Value}
theorem prm_null (hp : Hp) (a : Wd) : primW hp sNull [a] = .ok (boolW (a.k == 3), hp) := by
 unfold primW
 simp only
 rw [if_neg (by decide), if_neg (by decide), if_pos trivial]
theorem prm_pair (hp : Hp) (a : Wd) : primW hp sPair [a] = .ok (boolW (isPW a), hp) := by
 unfold primW
 simp only
 rw [if_neg (by decide), if_neg (by decide), if_neg (by decide), if_pos trivial]
theorem prm_not (hp : Hp) (a : Wd) : primW hp sNot [a] = .ok (boolW ((a.k == 2) && (a.n == 0)), hp) := by
 unfold primW
 simp only
 rw [if_neg (by decide), if_neg (by decide), if_neg (by decide), if_neg (by decide), if_pos trivial]
theorem prm_error (hp : Hp) (a : Wd) : primW hp sError [a] = .error 14 := by
 unfold primW
 simp only
 rw [if_neg (by decide), if_neg (by decide), if_neg (by decide), if_neg (by decide), if_neg (by decide)]
theorem prm_car (hp : Hp) (a : Wd) : primW hp sCar [a] = if isPW a then .ok ((hp.getD (ixW a) (noW, noW)).1, hp) else .error 3 := by
 unfold primW
 simp only
 rw [if_pos trivial]
theorem prm_cdr (hp : Hp) (a : Wd) : primW hp sCdr [a] = if isPW a then .ok ((hp.getD (ixW a) (noW, noW)).2, hp) else .error 3 := by
 unfold primW
 simp only
 rw [if_neg (by decide), if_pos trivial]
theorem prm_cons (hp : Hp) (a b : Wd) : primW hp sCons [a, b] = .ok (⟨5, pAt hp.length, ⟨#[]⟩⟩, hp ++ [(a, b)]) := by
 unfold primW
 simp only
 rw [if_pos trivial]
theorem prm_eqq (hp : Hp) (a b : Wd) : primW hp sEqq [a, b] = .ok (boolW (sameW a b), hp) := by
 unfold primW
 simp only
 rw [if_neg (by decide), if_pos trivial]
set_option maxHeartbeats 1000000 in
theorem prim_null {ak an : Int} {aS : ByteArray} (k : c.Ok) (h : Eng c w pc st hp fu A len cap v) (hwa : WIn hp ⟨ak, an, aS⟩) : PrimSays c w pc st hp fu A len v sNull [⟨ak, an, aS⟩] := by
 intro Al cl hl
 obtain ⟨r, hr⟩ : ∃ r, primW hp sNull [⟨ak, an, aS⟩] = r := ⟨_, rfl⟩
 rw [hr]
 rw [prm_null] at hr
 unfold sNull
 have HR := Lib.hid hr
 clear hr
 obtain ⟨b3, o3, rfl, hb3, _, a0, a1, a2⟩ := hl.nth (i := 0) (x := ⟨ak, an, aS⟩) rfl
 simp only at a0 a1 a2
 simp only [Nat.zero_mul, Nat.add_zero, List.length_cons, List.length_nil, Nat.zero_add] at a0 a1 a2 ⊢
 have hcl := hl.cap_
 have hcl2 : cl <= 9223372036854775807 := by unfold maxLen at hcl; omega
 have hcl0 : (0 : Int) < (cl : Int) := by have := hl.le; simp at this; omega
 obtain ⟨wb, hwb⟩ : ∃ wb, w.alloc (.cells #[.int .i64 0, .int .i64 0, .string ⟨#[]⟩] 49) = wb := ⟨_, rfl⟩
 have hb : Below w.heap.size w wb := by rw [<- hwb]; exact (Below.refl _ _).alloc (Nat.le_refl _) _
 have n0 : wb.cell? ⟨w.heap.size, 0, none⟩ = some (.int .i64 0) := by rw [<- hwb]; exact za _ _ _ 0
 have n1 : wb.cell? ⟨w.heap.size, 1, none⟩ = some (.int .i64 0) := by rw [<- hwb]; exact za _ _ _ 1
 have n2 : wb.cell? ⟨w.heap.size, 2, none⟩ = some (.string ⟨#[]⟩) := by rw [<- hwb]; exact za _ _ _ 2
 have nf : ∀ j, wb.frozen? ⟨w.heap.size, j, none⟩ = false := by intro j; rw [<- hwb]; exact ze _ _ _ _
 have hlt : w.heap.size < wb.heap.size := by rw [<- hwb]; simp
 have hE := h.new k hb
 have HE := Lib.hid hE
 have HWB := Lib.hid hwb
 have HBW := Lib.hid hb
 have N0 := Lib.hid n0
 have N1 := Lib.hid n1
 have N2 := Lib.hid n2
 have NF := Lib.hid nf
 have g3 := hE.g3
 have hGb := hE.ltG k
 have a0 := (hb.cell (p := ⟨b3, o3, none⟩) hb3).trans a0
 have a1 := (hb.cell (p := ⟨b3, o3 + 1, none⟩) hb3).trans a1
 have a2 := (hb.cell (p := ⟨b3, o3 + 2, none⟩) hb3).trans a2
 have hb3b : b3 < wb.heap.size := Nat.lt_of_lt_of_le hb3 hb.size
 have KA := Lib.hid (engAt_any g3 hE.heap hGb ⟨ak, an, aS⟩ (Or.inl hwa))
 have HWA := Lib.hid hwa
 have hbase := h.tur.size
 have HOWN := Lib.hid (show ∀ b, v.ownBlock = some b -> b < w.heap.size from fun b e => (h.ownB e).2)
 have HAPT := Lib.hid (show ∀ b, inSl A len b -> b < w.heap.size from fun b hb => h.heap.lt hb)
 clear h hE hl hcl hwb hb n0 n1 n2 nf hb3
 go_enter Tryz.func79, Tryz.ntmps79
 go_upto_region 1 with fail
 rw [HWB.out]
 go_wp2_with fail
 refine KA.out.mono ?_
 rintro e w1 ⟨rfl, hb1⟩
 obtain ⟨w2, hw2⟩ : ∃ w2, w1.alloc (.cells #[.int .i64 ak, .int .i64 an, .string aS] 49) = w2 := ⟨_, rfl⟩
 have hb12 : Below w1.heap.size w1 w2 := by rw [<- hw2]; exact (Below.refl _ _).alloc (Nat.le_refl _) _
 have hb2 := hb1.trans (hb12.mono hb1.size)
 have p0 : w2.cell? ⟨w1.heap.size, 0, none⟩ = some (.int .i64 ak) := by rw [<- hw2]; exact za _ _ _ 0
 have p1 : w2.cell? ⟨w1.heap.size, 1, none⟩ = some (.int .i64 an) := by rw [<- hw2]; exact za _ _ _ 1
 have p2 : w2.cell? ⟨w1.heap.size, 2, none⟩ = some (.string aS) := by rw [<- hw2]; exact za _ _ _ 2
 have hs1 := hb1.size
 have hp12 : w1.heap.size < w2.heap.size := by rw [<- hw2]; simp
 have g32 := (HE.out.new k hb2).g3
 have HB2 := Lib.hid hb2
 have HW2 := Lib.hid hw2
 clear hb1 hb12 hb2 hw2
 go_upto_region 2 with fail
 rw [HW2.out]
 cases hz : (ak == 3)
 ·
  go_wp2_with fail
  refine (asBool_any false _).mono ?_
  rintro e w5 ⟨rfl, hb5⟩
  rw [show (boolW false).agg = .agg #[.int .i64 2, .int .i64 0, .string ⟨#[]⟩] from rfl]
  have hb05 := HB2.out.trans (hb5.mono HB2.out.size)
  have n0 := (hb05.cell (p := ⟨w.heap.size, 0, none⟩) hlt).trans N0.out
  have n1 := (hb05.cell (p := ⟨w.heap.size, 1, none⟩) hlt).trans N1.out
  have n2 := (hb05.cell (p := ⟨w.heap.size, 2, none⟩) hlt).trans N2.out
  have f0 := (hb05.frozen (p := ⟨w.heap.size, 0, none⟩) hlt).trans (NF.out 0)
  have f1 := (hb05.frozen (p := ⟨w.heap.size, 1, none⟩) hlt).trans (NF.out 1)
  have f2 := (hb05.frozen (p := ⟨w.heap.size, 2, none⟩) hlt).trans (NF.out 2)
  have S0 := Lib.hid (set3_0 (u0 := .int .i64 2) (u1 := .int .i64 0) (u2 := .string ⟨#[]⟩) n0)
  have S1 := Lib.hid (set3_1 (u0 := .int .i64 2) (u1 := .int .i64 0) (u2 := .string ⟨#[]⟩) n1)
  have S2 := Lib.hid (set3_2 (u0 := .int .i64 2) (u1 := .int .i64 0) (u2 := .string ⟨#[]⟩) n2)
  have HB5 := Lib.hid hb05
  clear hb5 hb05
  go_wp2_with fail
  have s0 := S0.out
  have s1 := S1.out
  have s2 := S2.out
  refine bodyPost_ret (v := .tuple #[.agg #[.int .i64 2, .int .i64 0, .string ⟨#[]⟩], .int .i64 0]) (by simp [results, Tryz.results79, go_sem, s0, s1, s2]) rfl ?_
  rw [<- HR.out]
  exact ⟨grown_new (zb (HBW.out.trans (HB5.out.mono HBW.out.size)) _) (grown_set3 _ _ _ _ _) (Nat.le_refl _), (by show _ = Ending.returned (.tuple #[(boolW (ak == 3)).agg, _]); rw [hz]; rfl), _, _, _, (((HE.out.new k HB5.out).other k (grown_set3 _ _ _ _ _) hbase (fun e => Nat.lt_irrefl _ (HOWN.out _ e)) (fun q hq e => by have h1 := HAPT.out q hq; omega))), fun q hq => Or.inl hq⟩
 ·
  go_wp2_with fail
  refine (asBool_any true _).mono ?_
  rintro e w5 ⟨rfl, hb5⟩
  rw [show (boolW true).agg = .agg #[.int .i64 2, .int .i64 1, .string ⟨#[]⟩] from rfl]
  have hb05 := HB2.out.trans (hb5.mono HB2.out.size)
  have n0 := (hb05.cell (p := ⟨w.heap.size, 0, none⟩) hlt).trans N0.out
  have n1 := (hb05.cell (p := ⟨w.heap.size, 1, none⟩) hlt).trans N1.out
  have n2 := (hb05.cell (p := ⟨w.heap.size, 2, none⟩) hlt).trans N2.out
  have f0 := (hb05.frozen (p := ⟨w.heap.size, 0, none⟩) hlt).trans (NF.out 0)
  have f1 := (hb05.frozen (p := ⟨w.heap.size, 1, none⟩) hlt).trans (NF.out 1)
  have f2 := (hb05.frozen (p := ⟨w.heap.size, 2, none⟩) hlt).trans (NF.out 2)
  have S0 := Lib.hid (set3_0 (u0 := .int .i64 2) (u1 := .int .i64 1) (u2 := .string ⟨#[]⟩) n0)
  have S1 := Lib.hid (set3_1 (u0 := .int .i64 2) (u1 := .int .i64 1) (u2 := .string ⟨#[]⟩) n1)
  have S2 := Lib.hid (set3_2 (u0 := .int .i64 2) (u1 := .int .i64 1) (u2 := .string ⟨#[]⟩) n2)
  have HB5 := Lib.hid hb05
  clear hb5 hb05
  go_wp2_with fail
  have s0 := S0.out
  have s1 := S1.out
  have s2 := S2.out
  refine bodyPost_ret (v := .tuple #[.agg #[.int .i64 2, .int .i64 1, .string ⟨#[]⟩], .int .i64 0]) (by simp [results, Tryz.results79, go_sem, s0, s1, s2]) rfl ?_
  rw [<- HR.out]
  exact ⟨grown_new (zb (HBW.out.trans (HB5.out.mono HBW.out.size)) _) (grown_set3 _ _ _ _ _) (Nat.le_refl _), (by show _ = Ending.returned (.tuple #[(boolW (ak == 3)).agg, _]); rw [hz]; rfl), _, _, _, (((HE.out.new k HB5.out).other k (grown_set3 _ _ _ _ _) hbase (fun e => Nat.lt_irrefl _ (HOWN.out _ e)) (fun q hq e => by have h1 := HAPT.out q hq; omega))), fun q hq => Or.inl hq⟩
set_option maxHeartbeats 1000000 in
theorem prim_pair {ak an : Int} {aS : ByteArray} (k : c.Ok) (h : Eng c w pc st hp fu A len cap v) (hwa : WIn hp ⟨ak, an, aS⟩) : PrimSays c w pc st hp fu A len v sPair [⟨ak, an, aS⟩] := by
 intro Al cl hl
 obtain ⟨r, hr⟩ : ∃ r, primW hp sPair [⟨ak, an, aS⟩] = r := ⟨_, rfl⟩
 rw [hr]
 rw [prm_pair] at hr
 unfold sPair
 have HR := Lib.hid hr
 clear hr
 obtain ⟨b3, o3, rfl, hb3, _, a0, a1, a2⟩ := hl.nth (i := 0) (x := ⟨ak, an, aS⟩) rfl
 simp only at a0 a1 a2
 simp only [Nat.zero_mul, Nat.add_zero, List.length_cons, List.length_nil, Nat.zero_add] at a0 a1 a2 ⊢
 have hcl := hl.cap_
 have hcl2 : cl <= 9223372036854775807 := by unfold maxLen at hcl; omega
 have hcl0 : (0 : Int) < (cl : Int) := by have := hl.le; simp at this; omega
 obtain ⟨wb, hwb⟩ : ∃ wb, w.alloc (.cells #[.int .i64 0, .int .i64 0, .string ⟨#[]⟩] 49) = wb := ⟨_, rfl⟩
 have hb : Below w.heap.size w wb := by rw [<- hwb]; exact (Below.refl _ _).alloc (Nat.le_refl _) _
 have n0 : wb.cell? ⟨w.heap.size, 0, none⟩ = some (.int .i64 0) := by rw [<- hwb]; exact za _ _ _ 0
 have n1 : wb.cell? ⟨w.heap.size, 1, none⟩ = some (.int .i64 0) := by rw [<- hwb]; exact za _ _ _ 1
 have n2 : wb.cell? ⟨w.heap.size, 2, none⟩ = some (.string ⟨#[]⟩) := by rw [<- hwb]; exact za _ _ _ 2
 have nf : ∀ j, wb.frozen? ⟨w.heap.size, j, none⟩ = false := by intro j; rw [<- hwb]; exact ze _ _ _ _
 have hlt : w.heap.size < wb.heap.size := by rw [<- hwb]; simp
 have hE := h.new k hb
 have HE := Lib.hid hE
 have HWB := Lib.hid hwb
 have HBW := Lib.hid hb
 have N0 := Lib.hid n0
 have N1 := Lib.hid n1
 have N2 := Lib.hid n2
 have NF := Lib.hid nf
 have g3 := hE.g3
 have hGb := hE.ltG k
 have a0 := (hb.cell (p := ⟨b3, o3, none⟩) hb3).trans a0
 have a1 := (hb.cell (p := ⟨b3, o3 + 1, none⟩) hb3).trans a1
 have a2 := (hb.cell (p := ⟨b3, o3 + 2, none⟩) hb3).trans a2
 have hb3b : b3 < wb.heap.size := Nat.lt_of_lt_of_le hb3 hb.size
 have KA := Lib.hid (engAt_any g3 hE.heap hGb ⟨ak, an, aS⟩ (Or.inl hwa))
 have HWA := Lib.hid hwa
 have hbase := h.tur.size
 have HOWN := Lib.hid (show ∀ b, v.ownBlock = some b -> b < w.heap.size from fun b e => (h.ownB e).2)
 have HAPT := Lib.hid (show ∀ b, inSl A len b -> b < w.heap.size from fun b hb => h.heap.lt hb)
 clear h hE hl hcl hwb hb n0 n1 n2 nf hb3
 go_enter Tryz.func79, Tryz.ntmps79
 go_upto_region 1 with fail
 rw [HWB.out]
 go_wp2_with fail
 refine KA.out.mono ?_
 rintro e w1 ⟨rfl, hb1⟩
 obtain ⟨w2, hw2⟩ : ∃ w2, w1.alloc (.cells #[.int .i64 ak, .int .i64 an, .string aS] 49) = w2 := ⟨_, rfl⟩
 have hb12 : Below w1.heap.size w1 w2 := by rw [<- hw2]; exact (Below.refl _ _).alloc (Nat.le_refl _) _
 have hb2 := hb1.trans (hb12.mono hb1.size)
 have p0 : w2.cell? ⟨w1.heap.size, 0, none⟩ = some (.int .i64 ak) := by rw [<- hw2]; exact za _ _ _ 0
 have p1 : w2.cell? ⟨w1.heap.size, 1, none⟩ = some (.int .i64 an) := by rw [<- hw2]; exact za _ _ _ 1
 have p2 : w2.cell? ⟨w1.heap.size, 2, none⟩ = some (.string aS) := by rw [<- hw2]; exact za _ _ _ 2
 have hs1 := hb1.size
 have hp12 : w1.heap.size < w2.heap.size := by rw [<- hw2]; simp
 have g32 := (HE.out.new k hb2).g3
 have HB2 := Lib.hid hb2
 have HW2 := Lib.hid hw2
 clear hb1 hb12 hb2 hw2
 go_upto_region 2 with fail
 rw [HW2.out]
 rcases HWA.out.head with ⟨hpw, hhd⟩ | ⟨hpw, hhd⟩
 ·
  have HPW := Lib.hid hpw
  clear hpw
  go_wp2_with fail
  refine (kindOf_any g32 (HE.out.new k HB2.out).heap (Nat.lt_of_lt_of_le hGb HB2.out.size) ⟨ak, an, aS⟩ (Or.inl HWA.out)).mono ?_
  rintro e w4 ⟨rfl, hb4⟩
  rw [hhd]
  have hs4 := hb4.size
  have hb04 := HB2.out.trans (hb4.mono HB2.out.size)
  have HB4 := Lib.hid hb04
  have p04 := (hb4.cell (p := ⟨w1.heap.size, 0, none⟩) hp12).trans p0
  have p14 := (hb4.cell (p := ⟨w1.heap.size, 1, none⟩) hp12).trans p1
  have p24 := (hb4.cell (p := ⟨w1.heap.size, 2, none⟩) hp12).trans p2
  have hp14 : w1.heap.size < w4.heap.size := Nat.lt_of_lt_of_le hp12 hs4
  have g34 := (HE.out.new k hb04).g3
  simp only [pairW, Wd.agg]
  have hfw := field_word 6 0 ⟨#[]⟩
  clear hhd hb04 hb4
  go_wp2_with fail
  refine (asBool_any true _).mono ?_
  rintro e w5 ⟨rfl, hb5⟩
  rw [show (boolW true).agg = .agg #[.int .i64 2, .int .i64 1, .string ⟨#[]⟩] from rfl]
  have hb05 := HB4.out.trans (hb5.mono HB4.out.size)
  have n0 := (hb05.cell (p := ⟨w.heap.size, 0, none⟩) hlt).trans N0.out
  have n1 := (hb05.cell (p := ⟨w.heap.size, 1, none⟩) hlt).trans N1.out
  have n2 := (hb05.cell (p := ⟨w.heap.size, 2, none⟩) hlt).trans N2.out
  have f0 := (hb05.frozen (p := ⟨w.heap.size, 0, none⟩) hlt).trans (NF.out 0)
  have f1 := (hb05.frozen (p := ⟨w.heap.size, 1, none⟩) hlt).trans (NF.out 1)
  have f2 := (hb05.frozen (p := ⟨w.heap.size, 2, none⟩) hlt).trans (NF.out 2)
  have S0 := Lib.hid (set3_0 (u0 := .int .i64 2) (u1 := .int .i64 1) (u2 := .string ⟨#[]⟩) n0)
  have S1 := Lib.hid (set3_1 (u0 := .int .i64 2) (u1 := .int .i64 1) (u2 := .string ⟨#[]⟩) n1)
  have S2 := Lib.hid (set3_2 (u0 := .int .i64 2) (u1 := .int .i64 1) (u2 := .string ⟨#[]⟩) n2)
  have HB5 := Lib.hid hb05
  clear hb5 hb05
  go_wp2_with fail
  have s0 := S0.out
  have s1 := S1.out
  have s2 := S2.out
  refine bodyPost_ret (v := .tuple #[.agg #[.int .i64 2, .int .i64 1, .string ⟨#[]⟩], .int .i64 0]) (by simp [results, Tryz.results79, go_sem, s0, s1, s2]) rfl ?_
  rw [<- HR.out]
  exact ⟨grown_new (zb (HBW.out.trans (HB5.out.mono HBW.out.size)) _) (grown_set3 _ _ _ _ _) (Nat.le_refl _), (by show _ = Ending.returned (.tuple #[(boolW (isPW ⟨ak, an, aS⟩)).agg, _]); rw [HPW.out]; rfl), _, _, _, (((HE.out.new k HB5.out).other k (grown_set3 _ _ _ _ _) hbase (fun e => Nat.lt_irrefl _ (HOWN.out _ e)) (fun q hq e => by have h1 := HAPT.out q hq; omega))), fun q hq => Or.inl hq⟩
 ·
  have HPW := Lib.hid hpw
  clear hpw
  go_wp2_with fail
  refine (kindOf_any g32 (HE.out.new k HB2.out).heap (Nat.lt_of_lt_of_le hGb HB2.out.size) ⟨ak, an, aS⟩ (Or.inl HWA.out)).mono ?_
  rintro e w4 ⟨rfl, hb4⟩
  rw [hhd]
  have hs4 := hb4.size
  have hb04 := HB2.out.trans (hb4.mono HB2.out.size)
  have HB4 := Lib.hid hb04
  have p04 := (hb4.cell (p := ⟨w1.heap.size, 0, none⟩) hp12).trans p0
  have p14 := (hb4.cell (p := ⟨w1.heap.size, 1, none⟩) hp12).trans p1
  have p24 := (hb4.cell (p := ⟨w1.heap.size, 2, none⟩) hp12).trans p2
  have hp14 : w1.heap.size < w4.heap.size := Nat.lt_of_lt_of_le hp12 hs4
  have g34 := (HE.out.new k hb04).g3
  simp only [noW, Wd.agg]
  have hfw := field_word 0 0 ⟨#[]⟩
  clear hhd hb04 hb4
  go_wp2_with fail
  refine (asBool_any false _).mono ?_
  rintro e w5 ⟨rfl, hb5⟩
  rw [show (boolW false).agg = .agg #[.int .i64 2, .int .i64 0, .string ⟨#[]⟩] from rfl]
  have hb05 := HB4.out.trans (hb5.mono HB4.out.size)
  have n0 := (hb05.cell (p := ⟨w.heap.size, 0, none⟩) hlt).trans N0.out
  have n1 := (hb05.cell (p := ⟨w.heap.size, 1, none⟩) hlt).trans N1.out
  have n2 := (hb05.cell (p := ⟨w.heap.size, 2, none⟩) hlt).trans N2.out
  have f0 := (hb05.frozen (p := ⟨w.heap.size, 0, none⟩) hlt).trans (NF.out 0)
  have f1 := (hb05.frozen (p := ⟨w.heap.size, 1, none⟩) hlt).trans (NF.out 1)
  have f2 := (hb05.frozen (p := ⟨w.heap.size, 2, none⟩) hlt).trans (NF.out 2)
  have S0 := Lib.hid (set3_0 (u0 := .int .i64 2) (u1 := .int .i64 0) (u2 := .string ⟨#[]⟩) n0)
  have S1 := Lib.hid (set3_1 (u0 := .int .i64 2) (u1 := .int .i64 0) (u2 := .string ⟨#[]⟩) n1)
  have S2 := Lib.hid (set3_2 (u0 := .int .i64 2) (u1 := .int .i64 0) (u2 := .string ⟨#[]⟩) n2)
  have HB5 := Lib.hid hb05
  clear hb5 hb05
  go_wp2_with fail
  have s0 := S0.out
  have s1 := S1.out
  have s2 := S2.out
  refine bodyPost_ret (v := .tuple #[.agg #[.int .i64 2, .int .i64 0, .string ⟨#[]⟩], .int .i64 0]) (by simp [results, Tryz.results79, go_sem, s0, s1, s2]) rfl ?_
  rw [<- HR.out]
  exact ⟨grown_new (zb (HBW.out.trans (HB5.out.mono HBW.out.size)) _) (grown_set3 _ _ _ _ _) (Nat.le_refl _), (by show _ = Ending.returned (.tuple #[(boolW (isPW ⟨ak, an, aS⟩)).agg, _]); rw [HPW.out]; rfl), _, _, _, (((HE.out.new k HB5.out).other k (grown_set3 _ _ _ _ _) hbase (fun e => Nat.lt_irrefl _ (HOWN.out _ e)) (fun q hq e => by have h1 := HAPT.out q hq; omega))), fun q hq => Or.inl hq⟩
set_option maxHeartbeats 1000000 in
theorem prim_not {ak an : Int} {aS : ByteArray} (k : c.Ok) (h : Eng c w pc st hp fu A len cap v) (hwa : WIn hp ⟨ak, an, aS⟩) : PrimSays c w pc st hp fu A len v sNot [⟨ak, an, aS⟩] := by
 intro Al cl hl
 obtain ⟨r, hr⟩ : ∃ r, primW hp sNot [⟨ak, an, aS⟩] = r := ⟨_, rfl⟩
 rw [hr]
 rw [prm_not] at hr
 unfold sNot
 have HR := Lib.hid hr
 clear hr
 obtain ⟨b3, o3, rfl, hb3, _, a0, a1, a2⟩ := hl.nth (i := 0) (x := ⟨ak, an, aS⟩) rfl
 simp only at a0 a1 a2
 simp only [Nat.zero_mul, Nat.add_zero, List.length_cons, List.length_nil, Nat.zero_add] at a0 a1 a2 ⊢
 have hcl := hl.cap_
 have hcl2 : cl <= 9223372036854775807 := by unfold maxLen at hcl; omega
 have hcl0 : (0 : Int) < (cl : Int) := by have := hl.le; simp at this; omega
 obtain ⟨wb, hwb⟩ : ∃ wb, w.alloc (.cells #[.int .i64 0, .int .i64 0, .string ⟨#[]⟩] 49) = wb := ⟨_, rfl⟩
 have hb : Below w.heap.size w wb := by rw [<- hwb]; exact (Below.refl _ _).alloc (Nat.le_refl _) _
 have n0 : wb.cell? ⟨w.heap.size, 0, none⟩ = some (.int .i64 0) := by rw [<- hwb]; exact za _ _ _ 0
 have n1 : wb.cell? ⟨w.heap.size, 1, none⟩ = some (.int .i64 0) := by rw [<- hwb]; exact za _ _ _ 1
 have n2 : wb.cell? ⟨w.heap.size, 2, none⟩ = some (.string ⟨#[]⟩) := by rw [<- hwb]; exact za _ _ _ 2
 have nf : ∀ j, wb.frozen? ⟨w.heap.size, j, none⟩ = false := by intro j; rw [<- hwb]; exact ze _ _ _ _
 have hlt : w.heap.size < wb.heap.size := by rw [<- hwb]; simp
 have hE := h.new k hb
 have HE := Lib.hid hE
 have HWB := Lib.hid hwb
 have HBW := Lib.hid hb
 have N0 := Lib.hid n0
 have N1 := Lib.hid n1
 have N2 := Lib.hid n2
 have NF := Lib.hid nf
 have g3 := hE.g3
 have hGb := hE.ltG k
 have a0 := (hb.cell (p := ⟨b3, o3, none⟩) hb3).trans a0
 have a1 := (hb.cell (p := ⟨b3, o3 + 1, none⟩) hb3).trans a1
 have a2 := (hb.cell (p := ⟨b3, o3 + 2, none⟩) hb3).trans a2
 have hb3b : b3 < wb.heap.size := Nat.lt_of_lt_of_le hb3 hb.size
 have KA := Lib.hid (engAt_any g3 hE.heap hGb ⟨ak, an, aS⟩ (Or.inl hwa))
 have HWA := Lib.hid hwa
 have hbase := h.tur.size
 have HOWN := Lib.hid (show ∀ b, v.ownBlock = some b -> b < w.heap.size from fun b e => (h.ownB e).2)
 have HAPT := Lib.hid (show ∀ b, inSl A len b -> b < w.heap.size from fun b hb => h.heap.lt hb)
 clear h hE hl hcl hwb hb n0 n1 n2 nf hb3
 go_enter Tryz.func79, Tryz.ntmps79
 go_upto_region 1 with fail
 rw [HWB.out]
 go_wp2_with fail
 refine KA.out.mono ?_
 rintro e w1 ⟨rfl, hb1⟩
 obtain ⟨w2, hw2⟩ : ∃ w2, w1.alloc (.cells #[.int .i64 ak, .int .i64 an, .string aS] 49) = w2 := ⟨_, rfl⟩
 have hb12 : Below w1.heap.size w1 w2 := by rw [<- hw2]; exact (Below.refl _ _).alloc (Nat.le_refl _) _
 have hb2 := hb1.trans (hb12.mono hb1.size)
 have p0 : w2.cell? ⟨w1.heap.size, 0, none⟩ = some (.int .i64 ak) := by rw [<- hw2]; exact za _ _ _ 0
 have p1 : w2.cell? ⟨w1.heap.size, 1, none⟩ = some (.int .i64 an) := by rw [<- hw2]; exact za _ _ _ 1
 have p2 : w2.cell? ⟨w1.heap.size, 2, none⟩ = some (.string aS) := by rw [<- hw2]; exact za _ _ _ 2
 have hs1 := hb1.size
 have hp12 : w1.heap.size < w2.heap.size := by rw [<- hw2]; simp
 have g32 := (HE.out.new k hb2).g3
 have HB2 := Lib.hid hb2
 have HW2 := Lib.hid hw2
 clear hb1 hb12 hb2 hw2
 go_upto_region 2 with fail
 rw [HW2.out]
 cases hz : (ak == 2)
 ·
  go_wp2_with fail
  refine (asBool_any false _).mono ?_
  rintro e w5 ⟨rfl, hb5⟩
  rw [show (boolW false).agg = .agg #[.int .i64 2, .int .i64 0, .string ⟨#[]⟩] from rfl]
  have hb05 := HB2.out.trans (hb5.mono HB2.out.size)
  have n0 := (hb05.cell (p := ⟨w.heap.size, 0, none⟩) hlt).trans N0.out
  have n1 := (hb05.cell (p := ⟨w.heap.size, 1, none⟩) hlt).trans N1.out
  have n2 := (hb05.cell (p := ⟨w.heap.size, 2, none⟩) hlt).trans N2.out
  have f0 := (hb05.frozen (p := ⟨w.heap.size, 0, none⟩) hlt).trans (NF.out 0)
  have f1 := (hb05.frozen (p := ⟨w.heap.size, 1, none⟩) hlt).trans (NF.out 1)
  have f2 := (hb05.frozen (p := ⟨w.heap.size, 2, none⟩) hlt).trans (NF.out 2)
  have S0 := Lib.hid (set3_0 (u0 := .int .i64 2) (u1 := .int .i64 0) (u2 := .string ⟨#[]⟩) n0)
  have S1 := Lib.hid (set3_1 (u0 := .int .i64 2) (u1 := .int .i64 0) (u2 := .string ⟨#[]⟩) n1)
  have S2 := Lib.hid (set3_2 (u0 := .int .i64 2) (u1 := .int .i64 0) (u2 := .string ⟨#[]⟩) n2)
  have HB5 := Lib.hid hb05
  clear hb5 hb05
  go_wp2_with fail
  have s0 := S0.out
  have s1 := S1.out
  have s2 := S2.out
  refine bodyPost_ret (v := .tuple #[.agg #[.int .i64 2, .int .i64 0, .string ⟨#[]⟩], .int .i64 0]) (by simp [results, Tryz.results79, go_sem, s0, s1, s2]) rfl ?_
  rw [<- HR.out]
  exact ⟨grown_new (zb (HBW.out.trans (HB5.out.mono HBW.out.size)) _) (grown_set3 _ _ _ _ _) (Nat.le_refl _), (by show _ = Ending.returned (.tuple #[(boolW ((ak == 2) && (an == 0))).agg, _]); rw [hz]; rfl), _, _, _, (((HE.out.new k HB5.out).other k (grown_set3 _ _ _ _ _) hbase (fun e => Nat.lt_irrefl _ (HOWN.out _ e)) (fun q hq e => by have h1 := HAPT.out q hq; omega))), fun q hq => Or.inl hq⟩
 ·
  cases hy : (an == 0)
  ·
   go_wp2_with fail
   refine (asBool_any false _).mono ?_
   rintro e w5 ⟨rfl, hb5⟩
   rw [show (boolW false).agg = .agg #[.int .i64 2, .int .i64 0, .string ⟨#[]⟩] from rfl]
   have hb05 := HB2.out.trans (hb5.mono HB2.out.size)
   have n0 := (hb05.cell (p := ⟨w.heap.size, 0, none⟩) hlt).trans N0.out
   have n1 := (hb05.cell (p := ⟨w.heap.size, 1, none⟩) hlt).trans N1.out
   have n2 := (hb05.cell (p := ⟨w.heap.size, 2, none⟩) hlt).trans N2.out
   have f0 := (hb05.frozen (p := ⟨w.heap.size, 0, none⟩) hlt).trans (NF.out 0)
   have f1 := (hb05.frozen (p := ⟨w.heap.size, 1, none⟩) hlt).trans (NF.out 1)
   have f2 := (hb05.frozen (p := ⟨w.heap.size, 2, none⟩) hlt).trans (NF.out 2)
   have S0 := Lib.hid (set3_0 (u0 := .int .i64 2) (u1 := .int .i64 0) (u2 := .string ⟨#[]⟩) n0)
   have S1 := Lib.hid (set3_1 (u0 := .int .i64 2) (u1 := .int .i64 0) (u2 := .string ⟨#[]⟩) n1)
   have S2 := Lib.hid (set3_2 (u0 := .int .i64 2) (u1 := .int .i64 0) (u2 := .string ⟨#[]⟩) n2)
   have HB5 := Lib.hid hb05
   clear hb5 hb05
   go_wp2_with fail
   have s0 := S0.out
   have s1 := S1.out
   have s2 := S2.out
   refine bodyPost_ret (v := .tuple #[.agg #[.int .i64 2, .int .i64 0, .string ⟨#[]⟩], .int .i64 0]) (by simp [results, Tryz.results79, go_sem, s0, s1, s2]) rfl ?_
   rw [<- HR.out]
   exact ⟨grown_new (zb (HBW.out.trans (HB5.out.mono HBW.out.size)) _) (grown_set3 _ _ _ _ _) (Nat.le_refl _), (by show _ = Ending.returned (.tuple #[(boolW ((ak == 2) && (an == 0))).agg, _]); rw [hz, hy]; rfl), _, _, _, (((HE.out.new k HB5.out).other k (grown_set3 _ _ _ _ _) hbase (fun e => Nat.lt_irrefl _ (HOWN.out _ e)) (fun q hq e => by have h1 := HAPT.out q hq; omega))), fun q hq => Or.inl hq⟩
  ·
   go_wp2_with fail
   refine (asBool_any true _).mono ?_
   rintro e w5 ⟨rfl, hb5⟩
   rw [show (boolW true).agg = .agg #[.int .i64 2, .int .i64 1, .string ⟨#[]⟩] from rfl]
   have hb05 := HB2.out.trans (hb5.mono HB2.out.size)
   have n0 := (hb05.cell (p := ⟨w.heap.size, 0, none⟩) hlt).trans N0.out
   have n1 := (hb05.cell (p := ⟨w.heap.size, 1, none⟩) hlt).trans N1.out
   have n2 := (hb05.cell (p := ⟨w.heap.size, 2, none⟩) hlt).trans N2.out
   have f0 := (hb05.frozen (p := ⟨w.heap.size, 0, none⟩) hlt).trans (NF.out 0)
   have f1 := (hb05.frozen (p := ⟨w.heap.size, 1, none⟩) hlt).trans (NF.out 1)
   have f2 := (hb05.frozen (p := ⟨w.heap.size, 2, none⟩) hlt).trans (NF.out 2)
   have S0 := Lib.hid (set3_0 (u0 := .int .i64 2) (u1 := .int .i64 1) (u2 := .string ⟨#[]⟩) n0)
   have S1 := Lib.hid (set3_1 (u0 := .int .i64 2) (u1 := .int .i64 1) (u2 := .string ⟨#[]⟩) n1)
   have S2 := Lib.hid (set3_2 (u0 := .int .i64 2) (u1 := .int .i64 1) (u2 := .string ⟨#[]⟩) n2)
   have HB5 := Lib.hid hb05
   clear hb5 hb05
   go_wp2_with fail
   have s0 := S0.out
   have s1 := S1.out
   have s2 := S2.out
   refine bodyPost_ret (v := .tuple #[.agg #[.int .i64 2, .int .i64 1, .string ⟨#[]⟩], .int .i64 0]) (by simp [results, Tryz.results79, go_sem, s0, s1, s2]) rfl ?_
   rw [<- HR.out]
   exact ⟨grown_new (zb (HBW.out.trans (HB5.out.mono HBW.out.size)) _) (grown_set3 _ _ _ _ _) (Nat.le_refl _), (by show _ = Ending.returned (.tuple #[(boolW ((ak == 2) && (an == 0))).agg, _]); rw [hz, hy]; rfl), _, _, _, (((HE.out.new k HB5.out).other k (grown_set3 _ _ _ _ _) hbase (fun e => Nat.lt_irrefl _ (HOWN.out _ e)) (fun q hq e => by have h1 := HAPT.out q hq; omega))), fun q hq => Or.inl hq⟩
set_option maxHeartbeats 1000000 in
theorem prim_error {ak an : Int} {aS : ByteArray} (k : c.Ok) (h : Eng c w pc st hp fu A len cap v) (hwa : WIn hp ⟨ak, an, aS⟩) : PrimSays c w pc st hp fu A len v sError [⟨ak, an, aS⟩] := by
 intro Al cl hl
 obtain ⟨r, hr⟩ : ∃ r, primW hp sError [⟨ak, an, aS⟩] = r := ⟨_, rfl⟩
 rw [hr]
 rw [prm_error] at hr
 unfold sError
 have HR := Lib.hid hr
 clear hr
 obtain ⟨b3, o3, rfl, hb3, _, a0, a1, a2⟩ := hl.nth (i := 0) (x := ⟨ak, an, aS⟩) rfl
 simp only at a0 a1 a2
 simp only [Nat.zero_mul, Nat.add_zero, List.length_cons, List.length_nil, Nat.zero_add] at a0 a1 a2 ⊢
 have hcl := hl.cap_
 have hcl2 : cl <= 9223372036854775807 := by unfold maxLen at hcl; omega
 have hcl0 : (0 : Int) < (cl : Int) := by have := hl.le; simp at this; omega
 obtain ⟨wb, hwb⟩ : ∃ wb, w.alloc (.cells #[.int .i64 0, .int .i64 0, .string ⟨#[]⟩] 49) = wb := ⟨_, rfl⟩
 have hb : Below w.heap.size w wb := by rw [<- hwb]; exact (Below.refl _ _).alloc (Nat.le_refl _) _
 have n0 : wb.cell? ⟨w.heap.size, 0, none⟩ = some (.int .i64 0) := by rw [<- hwb]; exact za _ _ _ 0
 have n1 : wb.cell? ⟨w.heap.size, 1, none⟩ = some (.int .i64 0) := by rw [<- hwb]; exact za _ _ _ 1
 have n2 : wb.cell? ⟨w.heap.size, 2, none⟩ = some (.string ⟨#[]⟩) := by rw [<- hwb]; exact za _ _ _ 2
 have nf : ∀ j, wb.frozen? ⟨w.heap.size, j, none⟩ = false := by intro j; rw [<- hwb]; exact ze _ _ _ _
 have hlt : w.heap.size < wb.heap.size := by rw [<- hwb]; simp
 have hE := h.new k hb
 have HE := Lib.hid hE
 have HWB := Lib.hid hwb
 have HBW := Lib.hid hb
 have N0 := Lib.hid n0
 have N1 := Lib.hid n1
 have N2 := Lib.hid n2
 have NF := Lib.hid nf
 have g3 := hE.g3
 have hGb := hE.ltG k
 have a0 := (hb.cell (p := ⟨b3, o3, none⟩) hb3).trans a0
 have a1 := (hb.cell (p := ⟨b3, o3 + 1, none⟩) hb3).trans a1
 have a2 := (hb.cell (p := ⟨b3, o3 + 2, none⟩) hb3).trans a2
 have hb3b : b3 < wb.heap.size := Nat.lt_of_lt_of_le hb3 hb.size
 have KA := Lib.hid (engAt_any g3 hE.heap hGb ⟨ak, an, aS⟩ (Or.inl hwa))
 have HWA := Lib.hid hwa
 have hbase := h.tur.size
 have HOWN := Lib.hid (show ∀ b, v.ownBlock = some b -> b < w.heap.size from fun b e => (h.ownB e).2)
 have HAPT := Lib.hid (show ∀ b, inSl A len b -> b < w.heap.size from fun b hb => h.heap.lt hb)
 clear h hE hl hcl hwb hb n0 n1 n2 nf hb3
 go_enter Tryz.func79, Tryz.ntmps79
 go_upto_region 1 with fail
 rw [HWB.out]
 go_wp2_with fail
 refine KA.out.mono ?_
 rintro e w1 ⟨rfl, hb1⟩
 obtain ⟨w2, hw2⟩ : ∃ w2, w1.alloc (.cells #[.int .i64 ak, .int .i64 an, .string aS] 49) = w2 := ⟨_, rfl⟩
 have hb12 : Below w1.heap.size w1 w2 := by rw [<- hw2]; exact (Below.refl _ _).alloc (Nat.le_refl _) _
 have hb2 := hb1.trans (hb12.mono hb1.size)
 have p0 : w2.cell? ⟨w1.heap.size, 0, none⟩ = some (.int .i64 ak) := by rw [<- hw2]; exact za _ _ _ 0
 have p1 : w2.cell? ⟨w1.heap.size, 1, none⟩ = some (.int .i64 an) := by rw [<- hw2]; exact za _ _ _ 1
 have p2 : w2.cell? ⟨w1.heap.size, 2, none⟩ = some (.string aS) := by rw [<- hw2]; exact za _ _ _ 2
 have hs1 := hb1.size
 have hp12 : w1.heap.size < w2.heap.size := by rw [<- hw2]; simp
 have g32 := (HE.out.new k hb2).g3
 have HB2 := Lib.hid hb2
 have HW2 := Lib.hid hw2
 clear hb1 hb12 hb2 hw2
 go_upto_region 2 with fail
 rw [HW2.out]
 have n0 := (HB2.out.cell (p := ⟨w.heap.size, 0, none⟩) hlt).trans N0.out
 have n1 := (HB2.out.cell (p := ⟨w.heap.size, 1, none⟩) hlt).trans N1.out
 have n2 := (HB2.out.cell (p := ⟨w.heap.size, 2, none⟩) hlt).trans N2.out
 have f0 := (HB2.out.frozen (p := ⟨w.heap.size, 0, none⟩) hlt).trans (NF.out 0)
 have f1 := (HB2.out.frozen (p := ⟨w.heap.size, 1, none⟩) hlt).trans (NF.out 1)
 have f2 := (HB2.out.frozen (p := ⟨w.heap.size, 2, none⟩) hlt).trans (NF.out 2)
 have S0 := Lib.hid (set3_0 (u0 := .int .i64 0) (u1 := .int .i64 0) (u2 := .string ⟨#[]⟩) n0)
 have S1 := Lib.hid (set3_1 (u0 := .int .i64 0) (u1 := .int .i64 0) (u2 := .string ⟨#[]⟩) n1)
 have S2 := Lib.hid (set3_2 (u0 := .int .i64 0) (u1 := .int .i64 0) (u2 := .string ⟨#[]⟩) n2)
 go_wp2_with fail
 have s0 := S0.out
 have s1 := S1.out
 have s2 := S2.out
 refine bodyPost_ret (v := .tuple #[.agg #[.int .i64 0, .int .i64 0, .string ⟨#[]⟩], .int .i64 14]) (by simp [results, Tryz.results79, go_sem, s0, s1, s2]) rfl ?_
 rw [<- HR.out]
 exact ⟨grown_new (zb (HBW.out.trans (HB2.out.mono HBW.out.size)) _) (grown_set3 _ _ _ _ _) (Nat.le_refl _), rfl⟩
set_option maxHeartbeats 1000000 in
theorem prim_car {ak an : Int} {aS : ByteArray} (k : c.Ok) (h : Eng c w pc st hp fu A len cap v) (hwa : WIn hp ⟨ak, an, aS⟩) : PrimSays c w pc st hp fu A len v sCar [⟨ak, an, aS⟩] := by
 intro Al cl hl
 obtain ⟨r, hr⟩ : ∃ r, primW hp sCar [⟨ak, an, aS⟩] = r := ⟨_, rfl⟩
 rw [hr]
 rw [prm_car] at hr
 unfold sCar
 have HR := Lib.hid hr
 clear hr
 obtain ⟨b3, o3, rfl, hb3, _, a0, a1, a2⟩ := hl.nth (i := 0) (x := ⟨ak, an, aS⟩) rfl
 simp only at a0 a1 a2
 simp only [Nat.zero_mul, Nat.add_zero, List.length_cons, List.length_nil, Nat.zero_add] at a0 a1 a2 ⊢
 have hcl := hl.cap_
 have hcl2 : cl <= 9223372036854775807 := by unfold maxLen at hcl; omega
 have hcl0 : (0 : Int) < (cl : Int) := by have := hl.le; simp at this; omega
 obtain ⟨wb, hwb⟩ : ∃ wb, w.alloc (.cells #[.int .i64 0, .int .i64 0, .string ⟨#[]⟩] 49) = wb := ⟨_, rfl⟩
 have hb : Below w.heap.size w wb := by rw [<- hwb]; exact (Below.refl _ _).alloc (Nat.le_refl _) _
 have n0 : wb.cell? ⟨w.heap.size, 0, none⟩ = some (.int .i64 0) := by rw [<- hwb]; exact za _ _ _ 0
 have n1 : wb.cell? ⟨w.heap.size, 1, none⟩ = some (.int .i64 0) := by rw [<- hwb]; exact za _ _ _ 1
 have n2 : wb.cell? ⟨w.heap.size, 2, none⟩ = some (.string ⟨#[]⟩) := by rw [<- hwb]; exact za _ _ _ 2
 have nf : ∀ j, wb.frozen? ⟨w.heap.size, j, none⟩ = false := by intro j; rw [<- hwb]; exact ze _ _ _ _
 have hlt : w.heap.size < wb.heap.size := by rw [<- hwb]; simp
 have hE := h.new k hb
 have HE := Lib.hid hE
 have HWB := Lib.hid hwb
 have HBW := Lib.hid hb
 have N0 := Lib.hid n0
 have N1 := Lib.hid n1
 have N2 := Lib.hid n2
 have NF := Lib.hid nf
 have g3 := hE.g3
 have hGb := hE.ltG k
 have a0 := (hb.cell (p := ⟨b3, o3, none⟩) hb3).trans a0
 have a1 := (hb.cell (p := ⟨b3, o3 + 1, none⟩) hb3).trans a1
 have a2 := (hb.cell (p := ⟨b3, o3 + 2, none⟩) hb3).trans a2
 have hb3b : b3 < wb.heap.size := Nat.lt_of_lt_of_le hb3 hb.size
 have KA := Lib.hid (engAt_any g3 hE.heap hGb ⟨ak, an, aS⟩ (Or.inl hwa))
 have HWA := Lib.hid hwa
 have hbase := h.tur.size
 have HOWN := Lib.hid (show ∀ b, v.ownBlock = some b -> b < w.heap.size from fun b e => (h.ownB e).2)
 have HAPT := Lib.hid (show ∀ b, inSl A len b -> b < w.heap.size from fun b hb => h.heap.lt hb)
 clear h hE hl hcl hwb hb n0 n1 n2 nf hb3
 go_enter Tryz.func79, Tryz.ntmps79
 go_upto_region 1 with fail
 rw [HWB.out]
 go_wp2_with fail
 refine KA.out.mono ?_
 rintro e w1 ⟨rfl, hb1⟩
 obtain ⟨w2, hw2⟩ : ∃ w2, w1.alloc (.cells #[.int .i64 ak, .int .i64 an, .string aS] 49) = w2 := ⟨_, rfl⟩
 have hb12 : Below w1.heap.size w1 w2 := by rw [<- hw2]; exact (Below.refl _ _).alloc (Nat.le_refl _) _
 have hb2 := hb1.trans (hb12.mono hb1.size)
 have p0 : w2.cell? ⟨w1.heap.size, 0, none⟩ = some (.int .i64 ak) := by rw [<- hw2]; exact za _ _ _ 0
 have p1 : w2.cell? ⟨w1.heap.size, 1, none⟩ = some (.int .i64 an) := by rw [<- hw2]; exact za _ _ _ 1
 have p2 : w2.cell? ⟨w1.heap.size, 2, none⟩ = some (.string aS) := by rw [<- hw2]; exact za _ _ _ 2
 have hs1 := hb1.size
 have hp12 : w1.heap.size < w2.heap.size := by rw [<- hw2]; simp
 have g32 := (HE.out.new k hb2).g3
 have HB2 := Lib.hid hb2
 have HW2 := Lib.hid hw2
 clear hb1 hb12 hb2 hw2
 go_upto_region 2 with fail
 rw [HW2.out]
 rcases HWA.out.head with ⟨hpw, hhd⟩ | ⟨hpw, hhd⟩
 ·
  have HPW := Lib.hid hpw
  clear hpw
  go_wp2_with fail
  refine (kindOf_any g32 (HE.out.new k HB2.out).heap (Nat.lt_of_lt_of_le hGb HB2.out.size) ⟨ak, an, aS⟩ (Or.inl HWA.out)).mono ?_
  rintro e w4 ⟨rfl, hb4⟩
  rw [hhd]
  have hs4 := hb4.size
  have hb04 := HB2.out.trans (hb4.mono HB2.out.size)
  have HB4 := Lib.hid hb04
  have p04 := (hb4.cell (p := ⟨w1.heap.size, 0, none⟩) hp12).trans p0
  have p14 := (hb4.cell (p := ⟨w1.heap.size, 1, none⟩) hp12).trans p1
  have p24 := (hb4.cell (p := ⟨w1.heap.size, 2, none⟩) hp12).trans p2
  have hp14 : w1.heap.size < w4.heap.size := Nat.lt_of_lt_of_le hp12 hs4
  have g34 := (HE.out.new k hb04).g3
  obtain ⟨i, hi, hae⟩ := HWA.out.pair HPW.out
  simp only [Wd.mk.injEq] at hae
  obtain ⟨rfl, han, rfl⟩ := hae
  obtain ⟨q0, q1, q2⟩ := flat_at hp i hi
  obtain ⟨j, hj⟩ : ∃ j : Nat, 2 + 3 * i + 1 = j := ⟨_, rfl⟩
  rw [hj] at q1
  obtain ⟨⟨xk, xn, xs⟩, hx⟩ : ∃ x, hp[i].1 = x := ⟨_, rfl⟩
  rw [hx] at q1
  obtain ⟨bh, oh, rfl, hbh, hjl, d0, d1, d2⟩ := (HE.out.new k hb04).heap.nth q1
  simp only at d0 d1 d2
  have hcp := (HE.out.new k hb04).heap.cap_
  have hle := (HE.out.new k hb04).heap.le
  have hcp2 : cap <= 9223372036854775807 := by unfold maxLen at hcp; omega
  have hj1 : an + 1 = (j : Int) := by rw [han]; unfold pAt; omega
  have hj0 : (0 : Int) <= (j : Int) := Int.natCast_nonneg _
  have hjc : (j : Int) < (cap : Int) := by omega
  have hjl2 : (j : Int) < (len : Int) := by omega
  have hanb : -9223372036854775808 <= an /\ an <= 9223372036854775807 := by omega
  have HRES := Lib.hid (show (hp.getD (ixW ⟨5, an, ⟨#[]⟩⟩) (noW, noW)).1 = ⟨xk, xn, xs⟩ from by rw [han, pAt_ix, <- hx]; simp [List.getD_eq_getElem?_getD, hi])
  have n0 := (HB4.out.cell (p := ⟨w.heap.size, 0, none⟩) hlt).trans N0.out
  have n1 := (HB4.out.cell (p := ⟨w.heap.size, 1, none⟩) hlt).trans N1.out
  have n2 := (HB4.out.cell (p := ⟨w.heap.size, 2, none⟩) hlt).trans N2.out
  have f0 := (HB4.out.frozen (p := ⟨w.heap.size, 0, none⟩) hlt).trans (NF.out 0)
  have f1 := (HB4.out.frozen (p := ⟨w.heap.size, 1, none⟩) hlt).trans (NF.out 1)
  have f2 := (HB4.out.frozen (p := ⟨w.heap.size, 2, none⟩) hlt).trans (NF.out 2)
  have S0 := Lib.hid (set3_0 (u0 := .int .i64 xk) (u1 := .int .i64 xn) (u2 := .string xs) n0)
  have S1 := Lib.hid (set3_1 (u0 := .int .i64 xk) (u1 := .int .i64 xn) (u2 := .string xs) n1)
  have S2 := Lib.hid (set3_2 (u0 := .int .i64 xk) (u1 := .int .i64 xn) (u2 := .string xs) n2)
  simp only [pairW, Wd.agg]
  have hfw := field_word 6 0 ⟨#[]⟩
  clear hhd hb04 hb4 q0 q1 q2 hx han hj hcp
  go_wp2_with fail
  go_region
  all_goals
   go_wp2_with fail
   have s0 := S0.out
   have s1 := S1.out
   have s2 := S2.out
   refine bodyPost_ret (v := .tuple #[.agg #[.int .i64 xk, .int .i64 xn, .string xs], .int .i64 0]) (by simp [results, Tryz.results79, go_sem, s0, s1, s2]) rfl ?_
   rw [<- HR.out, if_pos (show isPW ⟨5, an, ⟨#[]⟩⟩ = true from rfl)]
   exact ⟨grown_new (zb (HBW.out.trans (HB4.out.mono HBW.out.size)) _) ((grown_set3 _ _ _ _ _).trans (zb ((Below.refl _ _).drew) _)) (Nat.le_refl _), (by show _ = Ending.returned (.tuple #[(hp.getD (ixW ⟨5, an, ⟨#[]⟩⟩) (noW, noW)).1.agg, _]); rw [HRES.out]; rfl), _, _, _, (((HE.out.new k HB4.out).other k (grown_set3 _ _ _ _ _) hbase (fun e => Nat.lt_irrefl _ (HOWN.out _ e)) (fun q hq e => by have h1 := HAPT.out q hq; omega))).new k ((Below.refl _ _).drew), fun q hq => Or.inl hq⟩
 ·
  have HPW := Lib.hid hpw
  clear hpw
  go_wp2_with fail
  refine (kindOf_any g32 (HE.out.new k HB2.out).heap (Nat.lt_of_lt_of_le hGb HB2.out.size) ⟨ak, an, aS⟩ (Or.inl HWA.out)).mono ?_
  rintro e w4 ⟨rfl, hb4⟩
  rw [hhd]
  have hs4 := hb4.size
  have hb04 := HB2.out.trans (hb4.mono HB2.out.size)
  have HB4 := Lib.hid hb04
  have p04 := (hb4.cell (p := ⟨w1.heap.size, 0, none⟩) hp12).trans p0
  have p14 := (hb4.cell (p := ⟨w1.heap.size, 1, none⟩) hp12).trans p1
  have p24 := (hb4.cell (p := ⟨w1.heap.size, 2, none⟩) hp12).trans p2
  have hp14 : w1.heap.size < w4.heap.size := Nat.lt_of_lt_of_le hp12 hs4
  have g34 := (HE.out.new k hb04).g3
  simp only [noW, Wd.agg]
  have hfw := field_word 0 0 ⟨#[]⟩
  have n0 := (HB4.out.cell (p := ⟨w.heap.size, 0, none⟩) hlt).trans N0.out
  have n1 := (HB4.out.cell (p := ⟨w.heap.size, 1, none⟩) hlt).trans N1.out
  have n2 := (HB4.out.cell (p := ⟨w.heap.size, 2, none⟩) hlt).trans N2.out
  have f0 := (HB4.out.frozen (p := ⟨w.heap.size, 0, none⟩) hlt).trans (NF.out 0)
  have f1 := (HB4.out.frozen (p := ⟨w.heap.size, 1, none⟩) hlt).trans (NF.out 1)
  have f2 := (HB4.out.frozen (p := ⟨w.heap.size, 2, none⟩) hlt).trans (NF.out 2)
  have S0 := Lib.hid (set3_0 (u0 := .int .i64 0) (u1 := .int .i64 0) (u2 := .string ⟨#[]⟩) n0)
  have S1 := Lib.hid (set3_1 (u0 := .int .i64 0) (u1 := .int .i64 0) (u2 := .string ⟨#[]⟩) n1)
  have S2 := Lib.hid (set3_2 (u0 := .int .i64 0) (u1 := .int .i64 0) (u2 := .string ⟨#[]⟩) n2)
  clear hhd hb04 hb4
  go_wp2_with fail
  have s0 := S0.out
  have s1 := S1.out
  have s2 := S2.out
  refine bodyPost_ret (v := .tuple #[.agg #[.int .i64 0, .int .i64 0, .string ⟨#[]⟩], .int .i64 3]) (by simp [results, Tryz.results79, go_sem, s0, s1, s2]) rfl ?_
  rw [<- HR.out, if_neg (by rw [HPW.out]; decide)]
  exact ⟨grown_new (zb (HBW.out.trans (HB4.out.mono HBW.out.size)) _) (grown_set3 _ _ _ _ _) (Nat.le_refl _), rfl⟩
set_option maxHeartbeats 1000000 in
theorem prim_cdr {ak an : Int} {aS : ByteArray} (k : c.Ok) (h : Eng c w pc st hp fu A len cap v) (hwa : WIn hp ⟨ak, an, aS⟩) : PrimSays c w pc st hp fu A len v sCdr [⟨ak, an, aS⟩] := by
 intro Al cl hl
 obtain ⟨r, hr⟩ : ∃ r, primW hp sCdr [⟨ak, an, aS⟩] = r := ⟨_, rfl⟩
 rw [hr]
 rw [prm_cdr] at hr
 unfold sCdr
 have HR := Lib.hid hr
 clear hr
 obtain ⟨b3, o3, rfl, hb3, _, a0, a1, a2⟩ := hl.nth (i := 0) (x := ⟨ak, an, aS⟩) rfl
 simp only at a0 a1 a2
 simp only [Nat.zero_mul, Nat.add_zero, List.length_cons, List.length_nil, Nat.zero_add] at a0 a1 a2 ⊢
 have hcl := hl.cap_
 have hcl2 : cl <= 9223372036854775807 := by unfold maxLen at hcl; omega
 have hcl0 : (0 : Int) < (cl : Int) := by have := hl.le; simp at this; omega
 obtain ⟨wb, hwb⟩ : ∃ wb, w.alloc (.cells #[.int .i64 0, .int .i64 0, .string ⟨#[]⟩] 49) = wb := ⟨_, rfl⟩
 have hb : Below w.heap.size w wb := by rw [<- hwb]; exact (Below.refl _ _).alloc (Nat.le_refl _) _
 have n0 : wb.cell? ⟨w.heap.size, 0, none⟩ = some (.int .i64 0) := by rw [<- hwb]; exact za _ _ _ 0
 have n1 : wb.cell? ⟨w.heap.size, 1, none⟩ = some (.int .i64 0) := by rw [<- hwb]; exact za _ _ _ 1
 have n2 : wb.cell? ⟨w.heap.size, 2, none⟩ = some (.string ⟨#[]⟩) := by rw [<- hwb]; exact za _ _ _ 2
 have nf : ∀ j, wb.frozen? ⟨w.heap.size, j, none⟩ = false := by intro j; rw [<- hwb]; exact ze _ _ _ _
 have hlt : w.heap.size < wb.heap.size := by rw [<- hwb]; simp
 have hE := h.new k hb
 have HE := Lib.hid hE
 have HWB := Lib.hid hwb
 have HBW := Lib.hid hb
 have N0 := Lib.hid n0
 have N1 := Lib.hid n1
 have N2 := Lib.hid n2
 have NF := Lib.hid nf
 have g3 := hE.g3
 have hGb := hE.ltG k
 have a0 := (hb.cell (p := ⟨b3, o3, none⟩) hb3).trans a0
 have a1 := (hb.cell (p := ⟨b3, o3 + 1, none⟩) hb3).trans a1
 have a2 := (hb.cell (p := ⟨b3, o3 + 2, none⟩) hb3).trans a2
 have hb3b : b3 < wb.heap.size := Nat.lt_of_lt_of_le hb3 hb.size
 have KA := Lib.hid (engAt_any g3 hE.heap hGb ⟨ak, an, aS⟩ (Or.inl hwa))
 have HWA := Lib.hid hwa
 have hbase := h.tur.size
 have HOWN := Lib.hid (show ∀ b, v.ownBlock = some b -> b < w.heap.size from fun b e => (h.ownB e).2)
 have HAPT := Lib.hid (show ∀ b, inSl A len b -> b < w.heap.size from fun b hb => h.heap.lt hb)
 clear h hE hl hcl hwb hb n0 n1 n2 nf hb3
 go_enter Tryz.func79, Tryz.ntmps79
 go_upto_region 1 with fail
 rw [HWB.out]
 go_wp2_with fail
 refine KA.out.mono ?_
 rintro e w1 ⟨rfl, hb1⟩
 obtain ⟨w2, hw2⟩ : ∃ w2, w1.alloc (.cells #[.int .i64 ak, .int .i64 an, .string aS] 49) = w2 := ⟨_, rfl⟩
 have hb12 : Below w1.heap.size w1 w2 := by rw [<- hw2]; exact (Below.refl _ _).alloc (Nat.le_refl _) _
 have hb2 := hb1.trans (hb12.mono hb1.size)
 have p0 : w2.cell? ⟨w1.heap.size, 0, none⟩ = some (.int .i64 ak) := by rw [<- hw2]; exact za _ _ _ 0
 have p1 : w2.cell? ⟨w1.heap.size, 1, none⟩ = some (.int .i64 an) := by rw [<- hw2]; exact za _ _ _ 1
 have p2 : w2.cell? ⟨w1.heap.size, 2, none⟩ = some (.string aS) := by rw [<- hw2]; exact za _ _ _ 2
 have hs1 := hb1.size
 have hp12 : w1.heap.size < w2.heap.size := by rw [<- hw2]; simp
 have g32 := (HE.out.new k hb2).g3
 have HB2 := Lib.hid hb2
 have HW2 := Lib.hid hw2
 clear hb1 hb12 hb2 hw2
 go_upto_region 2 with fail
 rw [HW2.out]
 rcases HWA.out.head with ⟨hpw, hhd⟩ | ⟨hpw, hhd⟩
 ·
  have HPW := Lib.hid hpw
  clear hpw
  go_wp2_with fail
  refine (kindOf_any g32 (HE.out.new k HB2.out).heap (Nat.lt_of_lt_of_le hGb HB2.out.size) ⟨ak, an, aS⟩ (Or.inl HWA.out)).mono ?_
  rintro e w4 ⟨rfl, hb4⟩
  rw [hhd]
  have hs4 := hb4.size
  have hb04 := HB2.out.trans (hb4.mono HB2.out.size)
  have HB4 := Lib.hid hb04
  have p04 := (hb4.cell (p := ⟨w1.heap.size, 0, none⟩) hp12).trans p0
  have p14 := (hb4.cell (p := ⟨w1.heap.size, 1, none⟩) hp12).trans p1
  have p24 := (hb4.cell (p := ⟨w1.heap.size, 2, none⟩) hp12).trans p2
  have hp14 : w1.heap.size < w4.heap.size := Nat.lt_of_lt_of_le hp12 hs4
  have g34 := (HE.out.new k hb04).g3
  obtain ⟨i, hi, hae⟩ := HWA.out.pair HPW.out
  simp only [Wd.mk.injEq] at hae
  obtain ⟨rfl, han, rfl⟩ := hae
  obtain ⟨q0, q1, q2⟩ := flat_at hp i hi
  obtain ⟨j, hj⟩ : ∃ j : Nat, 2 + 3 * i + 2 = j := ⟨_, rfl⟩
  rw [hj] at q2
  obtain ⟨⟨xk, xn, xs⟩, hx⟩ : ∃ x, hp[i].2 = x := ⟨_, rfl⟩
  rw [hx] at q2
  obtain ⟨bh, oh, rfl, hbh, hjl, d0, d1, d2⟩ := (HE.out.new k hb04).heap.nth q2
  simp only at d0 d1 d2
  have hcp := (HE.out.new k hb04).heap.cap_
  have hle := (HE.out.new k hb04).heap.le
  have hcp2 : cap <= 9223372036854775807 := by unfold maxLen at hcp; omega
  have hj1 : an + 2 = (j : Int) := by rw [han]; unfold pAt; omega
  have hj0 : (0 : Int) <= (j : Int) := Int.natCast_nonneg _
  have hjc : (j : Int) < (cap : Int) := by omega
  have hjl2 : (j : Int) < (len : Int) := by omega
  have hanb : -9223372036854775808 <= an /\ an <= 9223372036854775807 := by omega
  have HRES := Lib.hid (show (hp.getD (ixW ⟨5, an, ⟨#[]⟩⟩) (noW, noW)).2 = ⟨xk, xn, xs⟩ from by rw [han, pAt_ix, <- hx]; simp [List.getD_eq_getElem?_getD, hi])
  have n0 := (HB4.out.cell (p := ⟨w.heap.size, 0, none⟩) hlt).trans N0.out
  have n1 := (HB4.out.cell (p := ⟨w.heap.size, 1, none⟩) hlt).trans N1.out
  have n2 := (HB4.out.cell (p := ⟨w.heap.size, 2, none⟩) hlt).trans N2.out
  have f0 := (HB4.out.frozen (p := ⟨w.heap.size, 0, none⟩) hlt).trans (NF.out 0)
  have f1 := (HB4.out.frozen (p := ⟨w.heap.size, 1, none⟩) hlt).trans (NF.out 1)
  have f2 := (HB4.out.frozen (p := ⟨w.heap.size, 2, none⟩) hlt).trans (NF.out 2)
  have S0 := Lib.hid (set3_0 (u0 := .int .i64 xk) (u1 := .int .i64 xn) (u2 := .string xs) n0)
  have S1 := Lib.hid (set3_1 (u0 := .int .i64 xk) (u1 := .int .i64 xn) (u2 := .string xs) n1)
  have S2 := Lib.hid (set3_2 (u0 := .int .i64 xk) (u1 := .int .i64 xn) (u2 := .string xs) n2)
  simp only [pairW, Wd.agg]
  have hfw := field_word 6 0 ⟨#[]⟩
  clear hhd hb04 hb4 q0 q1 q2 hx han hj hcp
  go_wp2_with fail
  go_region
  all_goals
   go_wp2_with fail
   have s0 := S0.out
   have s1 := S1.out
   have s2 := S2.out
   refine bodyPost_ret (v := .tuple #[.agg #[.int .i64 xk, .int .i64 xn, .string xs], .int .i64 0]) (by simp [results, Tryz.results79, go_sem, s0, s1, s2]) rfl ?_
   rw [<- HR.out, if_pos (show isPW ⟨5, an, ⟨#[]⟩⟩ = true from rfl)]
   exact ⟨grown_new (zb (HBW.out.trans (HB4.out.mono HBW.out.size)) _) ((grown_set3 _ _ _ _ _).trans (zb ((Below.refl _ _).drew) _)) (Nat.le_refl _), (by show _ = Ending.returned (.tuple #[(hp.getD (ixW ⟨5, an, ⟨#[]⟩⟩) (noW, noW)).2.agg, _]); rw [HRES.out]; rfl), _, _, _, (((HE.out.new k HB4.out).other k (grown_set3 _ _ _ _ _) hbase (fun e => Nat.lt_irrefl _ (HOWN.out _ e)) (fun q hq e => by have h1 := HAPT.out q hq; omega))).new k ((Below.refl _ _).drew), fun q hq => Or.inl hq⟩
 ·
  have HPW := Lib.hid hpw
  clear hpw
  go_wp2_with fail
  refine (kindOf_any g32 (HE.out.new k HB2.out).heap (Nat.lt_of_lt_of_le hGb HB2.out.size) ⟨ak, an, aS⟩ (Or.inl HWA.out)).mono ?_
  rintro e w4 ⟨rfl, hb4⟩
  rw [hhd]
  have hs4 := hb4.size
  have hb04 := HB2.out.trans (hb4.mono HB2.out.size)
  have HB4 := Lib.hid hb04
  have p04 := (hb4.cell (p := ⟨w1.heap.size, 0, none⟩) hp12).trans p0
  have p14 := (hb4.cell (p := ⟨w1.heap.size, 1, none⟩) hp12).trans p1
  have p24 := (hb4.cell (p := ⟨w1.heap.size, 2, none⟩) hp12).trans p2
  have hp14 : w1.heap.size < w4.heap.size := Nat.lt_of_lt_of_le hp12 hs4
  have g34 := (HE.out.new k hb04).g3
  simp only [noW, Wd.agg]
  have hfw := field_word 0 0 ⟨#[]⟩
  have n0 := (HB4.out.cell (p := ⟨w.heap.size, 0, none⟩) hlt).trans N0.out
  have n1 := (HB4.out.cell (p := ⟨w.heap.size, 1, none⟩) hlt).trans N1.out
  have n2 := (HB4.out.cell (p := ⟨w.heap.size, 2, none⟩) hlt).trans N2.out
  have f0 := (HB4.out.frozen (p := ⟨w.heap.size, 0, none⟩) hlt).trans (NF.out 0)
  have f1 := (HB4.out.frozen (p := ⟨w.heap.size, 1, none⟩) hlt).trans (NF.out 1)
  have f2 := (HB4.out.frozen (p := ⟨w.heap.size, 2, none⟩) hlt).trans (NF.out 2)
  have S0 := Lib.hid (set3_0 (u0 := .int .i64 0) (u1 := .int .i64 0) (u2 := .string ⟨#[]⟩) n0)
  have S1 := Lib.hid (set3_1 (u0 := .int .i64 0) (u1 := .int .i64 0) (u2 := .string ⟨#[]⟩) n1)
  have S2 := Lib.hid (set3_2 (u0 := .int .i64 0) (u1 := .int .i64 0) (u2 := .string ⟨#[]⟩) n2)
  clear hhd hb04 hb4
  go_wp2_with fail
  have s0 := S0.out
  have s1 := S1.out
  have s2 := S2.out
  refine bodyPost_ret (v := .tuple #[.agg #[.int .i64 0, .int .i64 0, .string ⟨#[]⟩], .int .i64 3]) (by simp [results, Tryz.results79, go_sem, s0, s1, s2]) rfl ?_
  rw [<- HR.out, if_neg (by rw [HPW.out]; decide)]
  exact ⟨grown_new (zb (HBW.out.trans (HB4.out.mono HBW.out.size)) _) (grown_set3 _ _ _ _ _) (Nat.le_refl _), rfl⟩
set_option maxHeartbeats 1000000 in
theorem prim_cons {ak an : Int} {aS : ByteArray} {bk bn : Int} {bS : ByteArray} (k : c.Ok) (h : Eng c w pc st hp fu A len cap v) (hwa : WIn hp ⟨ak, an, aS⟩) (hwbb : WIn hp ⟨bk, bn, bS⟩) (hsm : len + 3 <= 60000) : PrimSays c w pc st hp fu A len v sCons [⟨ak, an, aS⟩, ⟨bk, bn, bS⟩] := by
 intro Al cl hl
 obtain ⟨r, hr⟩ : ∃ r, primW hp sCons [⟨ak, an, aS⟩, ⟨bk, bn, bS⟩] = r := ⟨_, rfl⟩
 rw [hr]
 rw [prm_cons] at hr
 unfold sCons
 have HR := Lib.hid hr
 clear hr
 obtain ⟨b3, o3, rfl, hb3, _, a0, a1, a2⟩ := hl.nth (i := 0) (x := ⟨ak, an, aS⟩) rfl
 simp only at a0 a1 a2
 obtain ⟨b3', o3', hA3', _, _, b0, b1, b2⟩ := hl.nth (i := 1) (x := ⟨bk, bn, bS⟩) rfl
 obtain ⟨rfl, rfl⟩ : b3 = b3' /\ o3 = o3' := by simpa using hA3'
 simp only [Nat.one_mul] at b0 b1 b2
 simp only [Nat.zero_mul, Nat.add_zero, List.length_cons, List.length_nil, Nat.zero_add] at a0 a1 a2 ⊢
 have hcl := hl.cap_
 have hcl2 : cl <= 9223372036854775807 := by unfold maxLen at hcl; omega
 have hcl0 : (0 : Int) < (cl : Int) := by have := hl.le; simp at this; omega
 have hcl1 : (1 : Int) < (cl : Int) := by have := hl.le; simp at this; omega
 obtain ⟨wb, hwb⟩ : ∃ wb, w.alloc (.cells #[.int .i64 0, .int .i64 0, .string ⟨#[]⟩] 49) = wb := ⟨_, rfl⟩
 have hb : Below w.heap.size w wb := by rw [<- hwb]; exact (Below.refl _ _).alloc (Nat.le_refl _) _
 have n0 : wb.cell? ⟨w.heap.size, 0, none⟩ = some (.int .i64 0) := by rw [<- hwb]; exact za _ _ _ 0
 have n1 : wb.cell? ⟨w.heap.size, 1, none⟩ = some (.int .i64 0) := by rw [<- hwb]; exact za _ _ _ 1
 have n2 : wb.cell? ⟨w.heap.size, 2, none⟩ = some (.string ⟨#[]⟩) := by rw [<- hwb]; exact za _ _ _ 2
 have nf : ∀ j, wb.frozen? ⟨w.heap.size, j, none⟩ = false := by intro j; rw [<- hwb]; exact ze _ _ _ _
 have hlt : w.heap.size < wb.heap.size := by rw [<- hwb]; simp
 have hE := h.new k hb
 have HE := Lib.hid hE
 have HWB := Lib.hid hwb
 have HBW := Lib.hid hb
 have N0 := Lib.hid n0
 have N1 := Lib.hid n1
 have N2 := Lib.hid n2
 have NF := Lib.hid nf
 have g3 := hE.g3
 have hGb := hE.ltG k
 have HGW := Lib.hid (h.ltG k)
 have a0 := (hb.cell (p := ⟨b3, o3, none⟩) hb3).trans a0
 have a1 := (hb.cell (p := ⟨b3, o3 + 1, none⟩) hb3).trans a1
 have a2 := (hb.cell (p := ⟨b3, o3 + 2, none⟩) hb3).trans a2
 have b0 := (hb.cell (p := ⟨b3, o3 + 3, none⟩) hb3).trans b0
 have b1 := (hb.cell (p := ⟨b3, o3 + 3 + 1, none⟩) hb3).trans b1
 have b2 := (hb.cell (p := ⟨b3, o3 + 3 + 2, none⟩) hb3).trans b2
 have hb3b : b3 < wb.heap.size := Nat.lt_of_lt_of_le hb3 hb.size
 have KA := Lib.hid (engAt_any g3 hE.heap hGb ⟨ak, an, aS⟩ (Or.inl hwa))
 have HWA := Lib.hid hwa
 have hbase := h.tur.size
 have HOWN := Lib.hid (show ∀ b, v.ownBlock = some b -> b < w.heap.size from fun b e => (h.ownB e).2)
 have HAPT := Lib.hid (show ∀ b, inSl A len b -> b < w.heap.size from fun b hb => h.heap.lt hb)
 clear h hE hl hcl hwb hb n0 n1 n2 nf hb3
 go_enter Tryz.func79, Tryz.ntmps79
 go_upto_region 1 with fail
 rw [HWB.out]
 go_wp2_with fail
 refine KA.out.mono ?_
 rintro e w1 ⟨rfl, hb1⟩
 obtain ⟨w2, hw2⟩ : ∃ w2, w1.alloc (.cells #[.int .i64 ak, .int .i64 an, .string aS] 49) = w2 := ⟨_, rfl⟩
 have hb12 : Below w1.heap.size w1 w2 := by rw [<- hw2]; exact (Below.refl _ _).alloc (Nat.le_refl _) _
 have hb2 := hb1.trans (hb12.mono hb1.size)
 have p0 : w2.cell? ⟨w1.heap.size, 0, none⟩ = some (.int .i64 ak) := by rw [<- hw2]; exact za _ _ _ 0
 have p1 : w2.cell? ⟨w1.heap.size, 1, none⟩ = some (.int .i64 an) := by rw [<- hw2]; exact za _ _ _ 1
 have p2 : w2.cell? ⟨w1.heap.size, 2, none⟩ = some (.string aS) := by rw [<- hw2]; exact za _ _ _ 2
 have hs1 := hb1.size
 have hp12 : w1.heap.size < w2.heap.size := by rw [<- hw2]; simp
 have g32 := (HE.out.new k hb2).g3
 have b02 := (hb2.cell (p := ⟨b3, o3 + 3, none⟩) hb3b).trans b0
 have b12 := (hb2.cell (p := ⟨b3, o3 + 3 + 1, none⟩) hb3b).trans b1
 have b22 := (hb2.cell (p := ⟨b3, o3 + 3 + 2, none⟩) hb3b).trans b2
 have hb32 : b3 < w2.heap.size := Nat.lt_of_lt_of_le hb3b hb2.size
 have HB2 := Lib.hid hb2
 have HW2 := Lib.hid hw2
 clear hb1 hb12 hb2 hw2
 go_upto_region 2 with fail
 rw [HW2.out]
 have HWBB := Lib.hid hwbb
 clear hwbb
 go_wp2_with fail
 refine (engAt_any g32 (HE.out.new k HB2.out).heap (Nat.lt_of_lt_of_le hGb HB2.out.size) ⟨bk, bn, bS⟩ (Or.inl HWBB.out)).mono ?_
 rintro e w3 ⟨rfl, hb23⟩
 obtain ⟨w4, hw4⟩ : ∃ w4, w3.alloc (.cells #[.int .i64 bk, .int .i64 bn, .string bS] 49) = w4 := ⟨_, rfl⟩
 have hb34 : Below w3.heap.size w3 w4 := by rw [<- hw4]; exact (Below.refl _ _).alloc (Nat.le_refl _) _
 have hb24 := hb23.trans (hb34.mono hb23.size)
 have hb4 := HB2.out.trans (hb24.mono HB2.out.size)
 have HB4 := Lib.hid hb4
 have o0 : w4.cell? ⟨w3.heap.size, 0, none⟩ = some (.int .i64 bk) := by rw [<- hw4]; exact za _ _ _ 0
 have o1 : w4.cell? ⟨w3.heap.size, 1, none⟩ = some (.int .i64 bn) := by rw [<- hw4]; exact za _ _ _ 1
 have o2 : w4.cell? ⟨w3.heap.size, 2, none⟩ = some (.string bS) := by rw [<- hw4]; exact za _ _ _ 2
 have p04 := (hb24.cell (p := ⟨w1.heap.size, 0, none⟩) hp12).trans p0
 have p14 := (hb24.cell (p := ⟨w1.heap.size, 1, none⟩) hp12).trans p1
 have p24 := (hb24.cell (p := ⟨w1.heap.size, 2, none⟩) hp12).trans p2
 have hs4 := hb24.size
 have hp14 : w1.heap.size < w4.heap.size := Nat.lt_of_lt_of_le hp12 hs4
 have ho34 : w3.heap.size < w4.heap.size := by rw [<- hw4]; simp
 have HW4 := Lib.hid hw4
 clear hb23 hb34 hb24 hb4 hw4 p0 p1 p2
 go_upto_region 19 with fail
 rw [HW4.out]
 go_wp2_with fail
 obtain ⟨w5, hw5⟩ : ∃ w5, (w4.alloc (.cells #[.int .i64 6, .int .i64 0, .string ⟨#[]⟩] 49)).alloc (.cells #[.int .i64 ak, .int .i64 an, .string aS, .int .i64 bk, .int .i64 bn, .string bS] 49) = w5 := ⟨_, rfl⟩
 have hb45 : Below w4.heap.size w4 w5 := by rw [<- hw5]; exact ((Below.refl _ _).alloc (Nat.le_refl _) _).alloc (by simp) _
 have hb5 := HB4.out.trans (hb45.mono HB4.out.size)
 have hl1 : WdsAt w5 (some ⟨w4.heap.size, 0, none⟩) 1 1 [pairW] := by
  refine ⟨rfl, Nat.le_refl _, by unfold maxLen; omega, fun _ => ⟨_, _, rfl, by rw [<- hw5]; simp; omega, fun i hi => ?_⟩⟩
  obtain rfl : i = 0 := by simpa using hi
  rw [<- hw5]
  exact ⟨cell_first _ _ _ _ _ 0, cell_first _ _ _ _ _ 1, cell_first _ _ _ _ _ 2⟩
 have hl2 : WdsAt w5 (some ⟨w4.heap.size + 1, 0, none⟩) 2 2 [⟨ak, an, aS⟩, ⟨bk, bn, bS⟩] := by
  refine ⟨rfl, Nat.le_refl _, by unfold maxLen; omega, fun _ => ⟨_, _, rfl, by rw [<- hw5]; simp, fun i hi => ?_⟩⟩
  rw [<- hw5]
  match i, hi with
  | 0, _ => exact ⟨cell_second _ _ _ _ _ 0, cell_second _ _ _ _ _ 1, cell_second _ _ _ _ _ 2⟩
  | 1, _ => exact ⟨cell_second _ _ _ _ _ 3, cell_second _ _ _ _ _ 4, cell_second _ _ _ _ _ 5⟩
 rw [hw5]
 refine (fresh_any k (HE.out.new k hb5) hsm hl1 hl2).mono ?_
 rintro e w6 ⟨rfl, ⟨A', cap', hE6, hn6⟩, hg6⟩
 have hwl5 : w.heap.size < w5.heap.size := Nat.lt_of_lt_of_le hlt hb5.size
 have hh6 : w6.heap[w.heap.size]? = w5.heap[w.heap.size]? := hg6.block _ hwl5 (fun e => by have := Option.some.inj e; have := HGW.out; omega)
 have n0 := (World.cell?_of_block (a := ⟨w.heap.size, 0, none⟩) hh6).trans ((hb5.cell (p := ⟨w.heap.size, 0, none⟩) hlt).trans N0.out)
 have n1 := (World.cell?_of_block (a := ⟨w.heap.size, 1, none⟩) hh6).trans ((hb5.cell (p := ⟨w.heap.size, 1, none⟩) hlt).trans N1.out)
 have n2 := (World.cell?_of_block (a := ⟨w.heap.size, 2, none⟩) hh6).trans ((hb5.cell (p := ⟨w.heap.size, 2, none⟩) hlt).trans N2.out)
 have f0 := (World.frozen?_of_block (a := ⟨w.heap.size, 0, none⟩) hh6).trans ((hb5.frozen (p := ⟨w.heap.size, 0, none⟩) hlt).trans (NF.out 0))
 have f1 := (World.frozen?_of_block (a := ⟨w.heap.size, 1, none⟩) hh6).trans ((hb5.frozen (p := ⟨w.heap.size, 1, none⟩) hlt).trans (NF.out 1))
 have f2 := (World.frozen?_of_block (a := ⟨w.heap.size, 2, none⟩) hh6).trans ((hb5.frozen (p := ⟨w.heap.size, 2, none⟩) hlt).trans (NF.out 2))
 have hlen := (HE.out.new k hb5).heap.size
 rw [flat_len] at hlen
 have hLE : (len : Int) = pAt hp.length := by unfold pAt; omega
 have HLE := Lib.hid hLE
 have HE6 := Lib.hid hE6
 have HN6 := Lib.hid hn6
 have HG6 := Lib.hid (show w.grownBy w6 (some c.G) from (zb (HBW.out.trans (hb5.mono HBW.out.size)) _).trans hg6)
 have S0 := Lib.hid (set3_0 (u0 := .int .i64 5) (u1 := .int .i64 len) (u2 := .string ⟨#[]⟩) n0)
 have S1 := Lib.hid (set3_1 (u0 := .int .i64 5) (u1 := .int .i64 len) (u2 := .string ⟨#[]⟩) n1)
 have S2 := Lib.hid (set3_2 (u0 := .int .i64 5) (u1 := .int .i64 len) (u2 := .string ⟨#[]⟩) n2)
 clear hE6 hn6 hg6 hh6 hb5 hb45 hl1 hl2 hw5 hlen hLE
 go_wp2_with fail
 have s0 := S0.out
 have s1 := S1.out
 have s2 := S2.out
 refine bodyPost_ret (v := .tuple #[.agg #[.int .i64 5, .int .i64 len, .string ⟨#[]⟩], .int .i64 0]) (by simp [results, Tryz.results79, go_sem, s0, s1, s2]) rfl ?_
 rw [<- HR.out]
 exact ⟨grown_new HG6.out (grown_set3 _ _ _ _ _) (Nat.le_refl _), by show _ = Ending.returned (.tuple #[(⟨5, pAt hp.length, ⟨#[]⟩⟩ : Wd).agg, _]); rw [<- HLE.out]; rfl, _, _, _, HE6.out.other k (grown_set3 _ _ _ _ _) hbase (fun e => Nat.lt_irrefl _ (HOWN.out _ e)) (fun q hq e => by have h1 := HN6.out q hq; omega), fun q hq => Or.inr (by have h1 := HN6.out q hq; omega)⟩
set_option maxHeartbeats 1000000 in
theorem prim_eqq {ak an : Int} {aS : ByteArray} {bk bn : Int} {bS : ByteArray} (k : c.Ok) (h : Eng c w pc st hp fu A len cap v) (hwa : WIn hp ⟨ak, an, aS⟩) (hwbb : WIn hp ⟨bk, bn, bS⟩) : PrimSays c w pc st hp fu A len v sEqq [⟨ak, an, aS⟩, ⟨bk, bn, bS⟩] := by
 intro Al cl hl
 obtain ⟨r, hr⟩ : ∃ r, primW hp sEqq [⟨ak, an, aS⟩, ⟨bk, bn, bS⟩] = r := ⟨_, rfl⟩
 rw [hr]
 rw [prm_eqq] at hr
 unfold sEqq
 have HR := Lib.hid hr
 clear hr
 obtain ⟨b3, o3, rfl, hb3, _, a0, a1, a2⟩ := hl.nth (i := 0) (x := ⟨ak, an, aS⟩) rfl
 simp only at a0 a1 a2
 obtain ⟨b3', o3', hA3', _, _, b0, b1, b2⟩ := hl.nth (i := 1) (x := ⟨bk, bn, bS⟩) rfl
 obtain ⟨rfl, rfl⟩ : b3 = b3' /\ o3 = o3' := by simpa using hA3'
 simp only [Nat.one_mul] at b0 b1 b2
 simp only [Nat.zero_mul, Nat.add_zero, List.length_cons, List.length_nil, Nat.zero_add] at a0 a1 a2 ⊢
 have hcl := hl.cap_
 have hcl2 : cl <= 9223372036854775807 := by unfold maxLen at hcl; omega
 have hcl0 : (0 : Int) < (cl : Int) := by have := hl.le; simp at this; omega
 have hcl1 : (1 : Int) < (cl : Int) := by have := hl.le; simp at this; omega
 obtain ⟨wb, hwb⟩ : ∃ wb, w.alloc (.cells #[.int .i64 0, .int .i64 0, .string ⟨#[]⟩] 49) = wb := ⟨_, rfl⟩
 have hb : Below w.heap.size w wb := by rw [<- hwb]; exact (Below.refl _ _).alloc (Nat.le_refl _) _
 have n0 : wb.cell? ⟨w.heap.size, 0, none⟩ = some (.int .i64 0) := by rw [<- hwb]; exact za _ _ _ 0
 have n1 : wb.cell? ⟨w.heap.size, 1, none⟩ = some (.int .i64 0) := by rw [<- hwb]; exact za _ _ _ 1
 have n2 : wb.cell? ⟨w.heap.size, 2, none⟩ = some (.string ⟨#[]⟩) := by rw [<- hwb]; exact za _ _ _ 2
 have nf : ∀ j, wb.frozen? ⟨w.heap.size, j, none⟩ = false := by intro j; rw [<- hwb]; exact ze _ _ _ _
 have hlt : w.heap.size < wb.heap.size := by rw [<- hwb]; simp
 have hE := h.new k hb
 have HE := Lib.hid hE
 have HWB := Lib.hid hwb
 have HBW := Lib.hid hb
 have N0 := Lib.hid n0
 have N1 := Lib.hid n1
 have N2 := Lib.hid n2
 have NF := Lib.hid nf
 have g3 := hE.g3
 have hGb := hE.ltG k
 have a0 := (hb.cell (p := ⟨b3, o3, none⟩) hb3).trans a0
 have a1 := (hb.cell (p := ⟨b3, o3 + 1, none⟩) hb3).trans a1
 have a2 := (hb.cell (p := ⟨b3, o3 + 2, none⟩) hb3).trans a2
 have b0 := (hb.cell (p := ⟨b3, o3 + 3, none⟩) hb3).trans b0
 have b1 := (hb.cell (p := ⟨b3, o3 + 3 + 1, none⟩) hb3).trans b1
 have b2 := (hb.cell (p := ⟨b3, o3 + 3 + 2, none⟩) hb3).trans b2
 have hb3b : b3 < wb.heap.size := Nat.lt_of_lt_of_le hb3 hb.size
 have KA := Lib.hid (engAt_any g3 hE.heap hGb ⟨ak, an, aS⟩ (Or.inl hwa))
 have HWA := Lib.hid hwa
 have hbase := h.tur.size
 have HOWN := Lib.hid (show ∀ b, v.ownBlock = some b -> b < w.heap.size from fun b e => (h.ownB e).2)
 have HAPT := Lib.hid (show ∀ b, inSl A len b -> b < w.heap.size from fun b hb => h.heap.lt hb)
 clear h hE hl hcl hwb hb n0 n1 n2 nf hb3
 go_enter Tryz.func79, Tryz.ntmps79
 go_upto_region 1 with fail
 rw [HWB.out]
 go_wp2_with fail
 refine KA.out.mono ?_
 rintro e w1 ⟨rfl, hb1⟩
 obtain ⟨w2, hw2⟩ : ∃ w2, w1.alloc (.cells #[.int .i64 ak, .int .i64 an, .string aS] 49) = w2 := ⟨_, rfl⟩
 have hb12 : Below w1.heap.size w1 w2 := by rw [<- hw2]; exact (Below.refl _ _).alloc (Nat.le_refl _) _
 have hb2 := hb1.trans (hb12.mono hb1.size)
 have p0 : w2.cell? ⟨w1.heap.size, 0, none⟩ = some (.int .i64 ak) := by rw [<- hw2]; exact za _ _ _ 0
 have p1 : w2.cell? ⟨w1.heap.size, 1, none⟩ = some (.int .i64 an) := by rw [<- hw2]; exact za _ _ _ 1
 have p2 : w2.cell? ⟨w1.heap.size, 2, none⟩ = some (.string aS) := by rw [<- hw2]; exact za _ _ _ 2
 have hs1 := hb1.size
 have hp12 : w1.heap.size < w2.heap.size := by rw [<- hw2]; simp
 have g32 := (HE.out.new k hb2).g3
 have b02 := (hb2.cell (p := ⟨b3, o3 + 3, none⟩) hb3b).trans b0
 have b12 := (hb2.cell (p := ⟨b3, o3 + 3 + 1, none⟩) hb3b).trans b1
 have b22 := (hb2.cell (p := ⟨b3, o3 + 3 + 2, none⟩) hb3b).trans b2
 have hb32 : b3 < w2.heap.size := Nat.lt_of_lt_of_le hb3b hb2.size
 have HB2 := Lib.hid hb2
 have HW2 := Lib.hid hw2
 clear hb1 hb12 hb2 hw2
 go_upto_region 2 with fail
 rw [HW2.out]
 cases hz : sameW ⟨ak, an, aS⟩ ⟨bk, bn, bS⟩
 ·
  have heq : ∀ W : World, (binOp .eql 49 (.agg #[.int .i64 ak, .int .i64 an, .string aS]) (.agg #[.int .i64 bk, .int .i64 bn, .string bS])).run Tryz.prog W = .ok (.bool false) W := fun W => by have h1 := eqlWord ⟨ak, an, aS⟩ ⟨bk, bn, bS⟩ W; rw [hz] at h1; exact h1
  have HZ := Lib.hid hz
  clear hz
  have HWBB := Lib.hid hwbb
  clear hwbb
  go_wp2_with fail
  refine (engAt_any g32 (HE.out.new k HB2.out).heap (Nat.lt_of_lt_of_le hGb HB2.out.size) ⟨bk, bn, bS⟩ (Or.inl HWBB.out)).mono ?_
  rintro e w3 ⟨rfl, hb23⟩
  obtain ⟨w4, hw4⟩ : ∃ w4, w3.alloc (.cells #[.int .i64 bk, .int .i64 bn, .string bS] 49) = w4 := ⟨_, rfl⟩
  have hb34 : Below w3.heap.size w3 w4 := by rw [<- hw4]; exact (Below.refl _ _).alloc (Nat.le_refl _) _
  have hb24 := hb23.trans (hb34.mono hb23.size)
  have hb4 := HB2.out.trans (hb24.mono HB2.out.size)
  have HB4 := Lib.hid hb4
  have o0 : w4.cell? ⟨w3.heap.size, 0, none⟩ = some (.int .i64 bk) := by rw [<- hw4]; exact za _ _ _ 0
  have o1 : w4.cell? ⟨w3.heap.size, 1, none⟩ = some (.int .i64 bn) := by rw [<- hw4]; exact za _ _ _ 1
  have o2 : w4.cell? ⟨w3.heap.size, 2, none⟩ = some (.string bS) := by rw [<- hw4]; exact za _ _ _ 2
  have p04 := (hb24.cell (p := ⟨w1.heap.size, 0, none⟩) hp12).trans p0
  have p14 := (hb24.cell (p := ⟨w1.heap.size, 1, none⟩) hp12).trans p1
  have p24 := (hb24.cell (p := ⟨w1.heap.size, 2, none⟩) hp12).trans p2
  have hs4 := hb24.size
  have hp14 : w1.heap.size < w4.heap.size := Nat.lt_of_lt_of_le hp12 hs4
  have ho34 : w3.heap.size < w4.heap.size := by rw [<- hw4]; simp
  have HW4 := Lib.hid hw4
  clear hb23 hb34 hb24 hb4 hw4 p0 p1 p2
  go_upto_region 19 with fail
  rw [HW4.out]
  go_wp2_with fail
  refine (asBool_any false _).mono ?_
  rintro e w5 ⟨rfl, hb5⟩
  rw [show (boolW false).agg = .agg #[.int .i64 2, .int .i64 0, .string ⟨#[]⟩] from rfl]
  have hb05 := HB4.out.trans (hb5.mono HB4.out.size)
  have n0 := (hb05.cell (p := ⟨w.heap.size, 0, none⟩) hlt).trans N0.out
  have n1 := (hb05.cell (p := ⟨w.heap.size, 1, none⟩) hlt).trans N1.out
  have n2 := (hb05.cell (p := ⟨w.heap.size, 2, none⟩) hlt).trans N2.out
  have f0 := (hb05.frozen (p := ⟨w.heap.size, 0, none⟩) hlt).trans (NF.out 0)
  have f1 := (hb05.frozen (p := ⟨w.heap.size, 1, none⟩) hlt).trans (NF.out 1)
  have f2 := (hb05.frozen (p := ⟨w.heap.size, 2, none⟩) hlt).trans (NF.out 2)
  have S0 := Lib.hid (set3_0 (u0 := .int .i64 2) (u1 := .int .i64 0) (u2 := .string ⟨#[]⟩) n0)
  have S1 := Lib.hid (set3_1 (u0 := .int .i64 2) (u1 := .int .i64 0) (u2 := .string ⟨#[]⟩) n1)
  have S2 := Lib.hid (set3_2 (u0 := .int .i64 2) (u1 := .int .i64 0) (u2 := .string ⟨#[]⟩) n2)
  have HB5 := Lib.hid hb05
  clear hb5 hb05 heq
  go_wp2_with fail
  have s0 := S0.out
  have s1 := S1.out
  have s2 := S2.out
  refine bodyPost_ret (v := .tuple #[.agg #[.int .i64 2, .int .i64 0, .string ⟨#[]⟩], .int .i64 0]) (by simp [results, Tryz.results79, go_sem, s0, s1, s2]) rfl ?_
  rw [<- HR.out]
  exact ⟨grown_new (zb (HBW.out.trans (HB5.out.mono HBW.out.size)) _) (grown_set3 _ _ _ _ _) (Nat.le_refl _), (by show _ = Ending.returned (.tuple #[(boolW (sameW ⟨ak, an, aS⟩ ⟨bk, bn, bS⟩)).agg, _]); rw [HZ.out]; rfl), _, _, _, (((HE.out.new k HB5.out).other k (grown_set3 _ _ _ _ _) hbase (fun e => Nat.lt_irrefl _ (HOWN.out _ e)) (fun q hq e => by have h1 := HAPT.out q hq; omega))), fun q hq => Or.inl hq⟩
 ·
  have heq : ∀ W : World, (binOp .eql 49 (.agg #[.int .i64 ak, .int .i64 an, .string aS]) (.agg #[.int .i64 bk, .int .i64 bn, .string bS])).run Tryz.prog W = .ok (.bool true) W := fun W => by have h1 := eqlWord ⟨ak, an, aS⟩ ⟨bk, bn, bS⟩ W; rw [hz] at h1; exact h1
  have HZ := Lib.hid hz
  clear hz
  have HWBB := Lib.hid hwbb
  clear hwbb
  go_wp2_with fail
  refine (engAt_any g32 (HE.out.new k HB2.out).heap (Nat.lt_of_lt_of_le hGb HB2.out.size) ⟨bk, bn, bS⟩ (Or.inl HWBB.out)).mono ?_
  rintro e w3 ⟨rfl, hb23⟩
  obtain ⟨w4, hw4⟩ : ∃ w4, w3.alloc (.cells #[.int .i64 bk, .int .i64 bn, .string bS] 49) = w4 := ⟨_, rfl⟩
  have hb34 : Below w3.heap.size w3 w4 := by rw [<- hw4]; exact (Below.refl _ _).alloc (Nat.le_refl _) _
  have hb24 := hb23.trans (hb34.mono hb23.size)
  have hb4 := HB2.out.trans (hb24.mono HB2.out.size)
  have HB4 := Lib.hid hb4
  have o0 : w4.cell? ⟨w3.heap.size, 0, none⟩ = some (.int .i64 bk) := by rw [<- hw4]; exact za _ _ _ 0
  have o1 : w4.cell? ⟨w3.heap.size, 1, none⟩ = some (.int .i64 bn) := by rw [<- hw4]; exact za _ _ _ 1
  have o2 : w4.cell? ⟨w3.heap.size, 2, none⟩ = some (.string bS) := by rw [<- hw4]; exact za _ _ _ 2
  have p04 := (hb24.cell (p := ⟨w1.heap.size, 0, none⟩) hp12).trans p0
  have p14 := (hb24.cell (p := ⟨w1.heap.size, 1, none⟩) hp12).trans p1
  have p24 := (hb24.cell (p := ⟨w1.heap.size, 2, none⟩) hp12).trans p2
  have hs4 := hb24.size
  have hp14 : w1.heap.size < w4.heap.size := Nat.lt_of_lt_of_le hp12 hs4
  have ho34 : w3.heap.size < w4.heap.size := by rw [<- hw4]; simp
  have HW4 := Lib.hid hw4
  clear hb23 hb34 hb24 hb4 hw4 p0 p1 p2
  go_upto_region 19 with fail
  rw [HW4.out]
  go_wp2_with fail
  refine (asBool_any true _).mono ?_
  rintro e w5 ⟨rfl, hb5⟩
  rw [show (boolW true).agg = .agg #[.int .i64 2, .int .i64 1, .string ⟨#[]⟩] from rfl]
  have hb05 := HB4.out.trans (hb5.mono HB4.out.size)
  have n0 := (hb05.cell (p := ⟨w.heap.size, 0, none⟩) hlt).trans N0.out
  have n1 := (hb05.cell (p := ⟨w.heap.size, 1, none⟩) hlt).trans N1.out
  have n2 := (hb05.cell (p := ⟨w.heap.size, 2, none⟩) hlt).trans N2.out
  have f0 := (hb05.frozen (p := ⟨w.heap.size, 0, none⟩) hlt).trans (NF.out 0)
  have f1 := (hb05.frozen (p := ⟨w.heap.size, 1, none⟩) hlt).trans (NF.out 1)
  have f2 := (hb05.frozen (p := ⟨w.heap.size, 2, none⟩) hlt).trans (NF.out 2)
  have S0 := Lib.hid (set3_0 (u0 := .int .i64 2) (u1 := .int .i64 1) (u2 := .string ⟨#[]⟩) n0)
  have S1 := Lib.hid (set3_1 (u0 := .int .i64 2) (u1 := .int .i64 1) (u2 := .string ⟨#[]⟩) n1)
  have S2 := Lib.hid (set3_2 (u0 := .int .i64 2) (u1 := .int .i64 1) (u2 := .string ⟨#[]⟩) n2)
  have HB5 := Lib.hid hb05
  clear hb5 hb05 heq
  go_wp2_with fail
  have s0 := S0.out
  have s1 := S1.out
  have s2 := S2.out
  refine bodyPost_ret (v := .tuple #[.agg #[.int .i64 2, .int .i64 1, .string ⟨#[]⟩], .int .i64 0]) (by simp [results, Tryz.results79, go_sem, s0, s1, s2]) rfl ?_
  rw [<- HR.out]
  exact ⟨grown_new (zb (HBW.out.trans (HB5.out.mono HBW.out.size)) _) (grown_set3 _ _ _ _ _) (Nat.le_refl _), (by show _ = Ending.returned (.tuple #[(boolW (sameW ⟨ak, an, aS⟩ ⟨bk, bn, bS⟩)).agg, _]); rw [HZ.out]; rfl), _, _, _, (((HE.out.new k HB5.out).other k (grown_set3 _ _ _ _ _) hbase (fun e => Nat.lt_irrefl _ (HOWN.out _ e)) (fun q hq e => by have h1 := HAPT.out q hq; omega))), fun q hq => Or.inl hq⟩
def mapR (r : Rs Wd) (hp : Hp) : Rs (Wd × Hp) := match r with
 | .ok w => .ok (w, hp)
 | .error e => .error e
theorem wok_int {hp : Hp} {n : Int} {s : ByteArray} (h : WIn hp ⟨1, n, s⟩) : -1099511627776 <= n /\ n <= 1099511627776 := by
 rcases h with h | ⟨i, _, e⟩
 ·
  rcases h with h | h | h | h
  ·
   unfold big at h
   exact ⟨h.2.1, h.2.2.1⟩
  ·
   have h1 : (1 : Int) = 2 := h.1
   omega
  ·
   have h1 : (1 : Int) = 3 := h.1
   omega
  have h1 : (1 : Int) = 4 := h.1
  omega
 have h1 : (1 : Int) = 5 := congrArg Wd.k e
 omega
theorem prm_two {s : ByteArray} (h1 : s ≠ sCons) (h2 : s ≠ sEqq) (hp : Hp) (a b : Wd) : primW hp s [a, b] = if ((a.k == 1) && (b.k == 1)) = true then mapR (calcW s a.n b.n) hp else .error 3 := by
 unfold primW
 simp only
 rw [if_neg h1, if_neg h2]
 rfl
set_option maxHeartbeats 1000000 in
theorem prim_two {op : ByteArray} (q0 : (op.toList == [99, 111, 110, 115]) = false) (q1 : (op.toList == [99, 97, 114]) = false) (q2 : (op.toList == [99, 100, 114]) = false) (q3 : (op.toList == [110, 117, 108, 108, 63]) = false) (q4 : (op.toList == [112, 97, 105, 114, 63]) = false) (q5 : (op.toList == [110, 111, 116]) = false) (q6 : (op.toList == [101, 113, 63]) = false) (q7 : (op.toList == [101, 114, 114, 111, 114]) = false) (h1 : op ≠ sCons) (h2 : op ≠ sEqq) {ak an : Int} {aS : ByteArray} {bk bn : Int} {bS : ByteArray} (k : c.Ok) (h : Eng c w pc st hp fu A len cap v) (hwa : WIn hp ⟨ak, an, aS⟩) (hwbb : WIn hp ⟨bk, bn, bS⟩) (hc : ∀ W, -1099511627776 <= an /\ an <= 1099511627776 -> -1099511627776 <= bn /\ bn <= 1099511627776 -> CalcSays op an bn W (calcW op an bn)) : PrimSays c w pc st hp fu A len v op [⟨ak, an, aS⟩, ⟨bk, bn, bS⟩] := by
 intro Al cl hl
 obtain ⟨r, hr⟩ : ∃ r, primW hp op [⟨ak, an, aS⟩, ⟨bk, bn, bS⟩] = r := ⟨_, rfl⟩
 rw [hr]
 rw [prm_two h1 h2] at hr
 have HR := Lib.hid hr
 clear hr
 obtain ⟨b3, o3, rfl, hb3, _, a0, a1, a2⟩ := hl.nth (i := 0) (x := ⟨ak, an, aS⟩) rfl
 simp only at a0 a1 a2
 obtain ⟨b3', o3', hA3', _, _, b0, b1, b2⟩ := hl.nth (i := 1) (x := ⟨bk, bn, bS⟩) rfl
 obtain ⟨rfl, rfl⟩ : b3 = b3' /\ o3 = o3' := by simpa using hA3'
 simp only [Nat.one_mul] at b0 b1 b2
 simp only [Nat.zero_mul, Nat.add_zero, List.length_cons, List.length_nil, Nat.zero_add] at a0 a1 a2 ⊢
 have hcl := hl.cap_
 have hcl2 : cl <= 9223372036854775807 := by unfold maxLen at hcl; omega
 have hcl0 : (0 : Int) < (cl : Int) := by have := hl.le; simp at this; omega
 have hcl1 : (1 : Int) < (cl : Int) := by have := hl.le; simp at this; omega
 obtain ⟨wb, hwb⟩ : ∃ wb, w.alloc (.cells #[.int .i64 0, .int .i64 0, .string ⟨#[]⟩] 49) = wb := ⟨_, rfl⟩
 have hb : Below w.heap.size w wb := by rw [<- hwb]; exact (Below.refl _ _).alloc (Nat.le_refl _) _
 have n0 : wb.cell? ⟨w.heap.size, 0, none⟩ = some (.int .i64 0) := by rw [<- hwb]; exact za _ _ _ 0
 have n1 : wb.cell? ⟨w.heap.size, 1, none⟩ = some (.int .i64 0) := by rw [<- hwb]; exact za _ _ _ 1
 have n2 : wb.cell? ⟨w.heap.size, 2, none⟩ = some (.string ⟨#[]⟩) := by rw [<- hwb]; exact za _ _ _ 2
 have nf : ∀ j, wb.frozen? ⟨w.heap.size, j, none⟩ = false := by intro j; rw [<- hwb]; exact ze _ _ _ _
 have hlt : w.heap.size < wb.heap.size := by rw [<- hwb]; simp
 have hE := h.new k hb
 have HE := Lib.hid hE
 have HWB := Lib.hid hwb
 have HBW := Lib.hid hb
 have N0 := Lib.hid n0
 have N1 := Lib.hid n1
 have N2 := Lib.hid n2
 have NF := Lib.hid nf
 have g3 := hE.g3
 have hGb := hE.ltG k
 have a0 := (hb.cell (p := ⟨b3, o3, none⟩) hb3).trans a0
 have a1 := (hb.cell (p := ⟨b3, o3 + 1, none⟩) hb3).trans a1
 have a2 := (hb.cell (p := ⟨b3, o3 + 2, none⟩) hb3).trans a2
 have b0 := (hb.cell (p := ⟨b3, o3 + 3, none⟩) hb3).trans b0
 have b1 := (hb.cell (p := ⟨b3, o3 + 3 + 1, none⟩) hb3).trans b1
 have b2 := (hb.cell (p := ⟨b3, o3 + 3 + 2, none⟩) hb3).trans b2
 have hb3b : b3 < wb.heap.size := Nat.lt_of_lt_of_le hb3 hb.size
 have KA := Lib.hid (engAt_any g3 hE.heap hGb ⟨ak, an, aS⟩ (Or.inl hwa))
 have HWA := Lib.hid hwa
 have hbase := h.tur.size
 have HOWN := Lib.hid (show ∀ b, v.ownBlock = some b -> b < w.heap.size from fun b e => (h.ownB e).2)
 have HAPT := Lib.hid (show ∀ b, inSl A len b -> b < w.heap.size from fun b hb => h.heap.lt hb)
 clear h hE hl hcl hwb hb n0 n1 n2 nf hb3
 go_enter Tryz.func79, Tryz.ntmps79
 go_upto_region 1 with fail
 rw [HWB.out]
 go_wp2_with fail
 refine KA.out.mono ?_
 rintro e w1 ⟨rfl, hb1⟩
 obtain ⟨w2, hw2⟩ : ∃ w2, w1.alloc (.cells #[.int .i64 ak, .int .i64 an, .string aS] 49) = w2 := ⟨_, rfl⟩
 have hb12 : Below w1.heap.size w1 w2 := by rw [<- hw2]; exact (Below.refl _ _).alloc (Nat.le_refl _) _
 have hb2 := hb1.trans (hb12.mono hb1.size)
 have p0 : w2.cell? ⟨w1.heap.size, 0, none⟩ = some (.int .i64 ak) := by rw [<- hw2]; exact za _ _ _ 0
 have p1 : w2.cell? ⟨w1.heap.size, 1, none⟩ = some (.int .i64 an) := by rw [<- hw2]; exact za _ _ _ 1
 have p2 : w2.cell? ⟨w1.heap.size, 2, none⟩ = some (.string aS) := by rw [<- hw2]; exact za _ _ _ 2
 have hs1 := hb1.size
 have hp12 : w1.heap.size < w2.heap.size := by rw [<- hw2]; simp
 have g32 := (HE.out.new k hb2).g3
 have b02 := (hb2.cell (p := ⟨b3, o3 + 3, none⟩) hb3b).trans b0
 have b12 := (hb2.cell (p := ⟨b3, o3 + 3 + 1, none⟩) hb3b).trans b1
 have b22 := (hb2.cell (p := ⟨b3, o3 + 3 + 2, none⟩) hb3b).trans b2
 have hb32 : b3 < w2.heap.size := Nat.lt_of_lt_of_le hb3b hb2.size
 have HB2 := Lib.hid hb2
 have HW2 := Lib.hid hw2
 clear hb1 hb12 hb2 hw2
 go_upto_region 2 with fail
 rw [HW2.out]
 by_cases ha1 : ak = 1
 ·
  by_cases hb1 : bk = 1
  ·
   subst ha1 hb1
   have HC := Lib.hid (fun W => hc W (wok_int HWA.out) (wok_int hwbb))
   clear hc
   have HWBB := Lib.hid hwbb
   clear hwbb
   go_wp2_with fail
   refine (engAt_any g32 (HE.out.new k HB2.out).heap (Nat.lt_of_lt_of_le hGb HB2.out.size) ⟨1, bn, bS⟩ (Or.inl HWBB.out)).mono ?_
   rintro e w3 ⟨rfl, hb23⟩
   obtain ⟨w4, hw4⟩ : ∃ w4, w3.alloc (.cells #[.int .i64 1, .int .i64 bn, .string bS] 49) = w4 := ⟨_, rfl⟩
   have hb34 : Below w3.heap.size w3 w4 := by rw [<- hw4]; exact (Below.refl _ _).alloc (Nat.le_refl _) _
   have hb24 := hb23.trans (hb34.mono hb23.size)
   have hb4 := HB2.out.trans (hb24.mono HB2.out.size)
   have HB4 := Lib.hid hb4
   have o0 : w4.cell? ⟨w3.heap.size, 0, none⟩ = some (.int .i64 1) := by rw [<- hw4]; exact za _ _ _ 0
   have o1 : w4.cell? ⟨w3.heap.size, 1, none⟩ = some (.int .i64 bn) := by rw [<- hw4]; exact za _ _ _ 1
   have o2 : w4.cell? ⟨w3.heap.size, 2, none⟩ = some (.string bS) := by rw [<- hw4]; exact za _ _ _ 2
   have p04 := (hb24.cell (p := ⟨w1.heap.size, 0, none⟩) hp12).trans p0
   have p14 := (hb24.cell (p := ⟨w1.heap.size, 1, none⟩) hp12).trans p1
   have p24 := (hb24.cell (p := ⟨w1.heap.size, 2, none⟩) hp12).trans p2
   have hs4 := hb24.size
   have hp14 : w1.heap.size < w4.heap.size := Nat.lt_of_lt_of_le hp12 hs4
   have ho34 : w3.heap.size < w4.heap.size := by rw [<- hw4]; simp
   have HW4 := Lib.hid hw4
   clear hb23 hb34 hb24 hb4 hw4 p0 p1 p2
   go_upto_region 19 with fail
   rw [HW4.out]
   go_wp2_with fail
   refine (HC.out _).mono ?_
   rintro e w5 ⟨rfl, hb5⟩
   unfold resV
   obtain ⟨⟨⟨xk, xn, xs⟩, er⟩, hx⟩ : ∃ x, resW (calcW op an bn) = x := ⟨_, rfl⟩
   rw [hx]
   simp only [Wd.agg]
   have HX := Lib.hid hx
   have hb05 := HB4.out.trans (hb5.mono HB4.out.size)
   have n0 := (hb05.cell (p := ⟨w.heap.size, 0, none⟩) hlt).trans N0.out
   have n1 := (hb05.cell (p := ⟨w.heap.size, 1, none⟩) hlt).trans N1.out
   have n2 := (hb05.cell (p := ⟨w.heap.size, 2, none⟩) hlt).trans N2.out
   have f0 := (hb05.frozen (p := ⟨w.heap.size, 0, none⟩) hlt).trans (NF.out 0)
   have f1 := (hb05.frozen (p := ⟨w.heap.size, 1, none⟩) hlt).trans (NF.out 1)
   have f2 := (hb05.frozen (p := ⟨w.heap.size, 2, none⟩) hlt).trans (NF.out 2)
   have S0 := Lib.hid (set3_0 (u0 := .int .i64 xk) (u1 := .int .i64 xn) (u2 := .string xs) n0)
   have S1 := Lib.hid (set3_1 (u0 := .int .i64 xk) (u1 := .int .i64 xn) (u2 := .string xs) n1)
   have S2 := Lib.hid (set3_2 (u0 := .int .i64 xk) (u1 := .int .i64 xn) (u2 := .string xs) n2)
   have HB5 := Lib.hid hb05
   clear hb5 hb05 hx
   go_wp2_with fail
   have s0 := S0.out
   have s1 := S1.out
   have s2 := S2.out
   refine bodyPost_ret (v := .tuple #[.agg #[.int .i64 xk, .int .i64 xn, .string xs], .int .i64 er]) (by simp [results, Tryz.results79, go_sem, s0, s1, s2]) rfl ?_
   have hR := HR.out
   rw [if_pos (show (((1 : Int) == 1) && ((1 : Int) == 1)) = true from rfl)] at hR
   rw [<- hR]
   have hX := HX.out
   show PrimPost c w pc st fu A len v (mapR (calcW op an bn) hp) _ _
   obtain ⟨rr, hrr⟩ : ∃ rr, calcW op an bn = rr := ⟨_, rfl⟩
   rw [hrr] at hX ⊢
   cases rr with
   | ok x =>
    simp only [resW, Prod.mk.injEq] at hX
    obtain ⟨rfl, rfl⟩ := hX
    exact ⟨grown_new (zb (HBW.out.trans (HB5.out.mono HBW.out.size)) _) (grown_set3 _ _ _ _ _) (Nat.le_refl _), rfl, _, _, _, (HE.out.new k HB5.out).other k (grown_set3 _ _ _ _ _) hbase (fun e => Nat.lt_irrefl _ (HOWN.out _ e)) (fun q hq e => by have h1 := HAPT.out q hq; omega), fun q hq => Or.inl hq⟩
   | error x =>
    simp only [resW, Prod.mk.injEq, noW, Wd.mk.injEq] at hX
    obtain ⟨⟨rfl, rfl, rfl⟩, rfl⟩ := hX
    exact ⟨grown_new (zb (HBW.out.trans (HB5.out.mono HBW.out.size)) _) (grown_set3 _ _ _ _ _) (Nat.le_refl _), rfl⟩
  clear hc
  subst ha1
  have HBAD := Lib.hid (show (((1 : Int) == 1) && (bk == 1)) = false from by simp [hb1])
  have hq2 : (bk != 1) = true := by simpa using hb1
  have HWBB := Lib.hid hwbb
  clear hwbb
  go_wp2_with fail
  refine (engAt_any g32 (HE.out.new k HB2.out).heap (Nat.lt_of_lt_of_le hGb HB2.out.size) ⟨bk, bn, bS⟩ (Or.inl HWBB.out)).mono ?_
  rintro e w3 ⟨rfl, hb23⟩
  obtain ⟨w4, hw4⟩ : ∃ w4, w3.alloc (.cells #[.int .i64 bk, .int .i64 bn, .string bS] 49) = w4 := ⟨_, rfl⟩
  have hb34 : Below w3.heap.size w3 w4 := by rw [<- hw4]; exact (Below.refl _ _).alloc (Nat.le_refl _) _
  have hb24 := hb23.trans (hb34.mono hb23.size)
  have hb4 := HB2.out.trans (hb24.mono HB2.out.size)
  have HB4 := Lib.hid hb4
  have o0 : w4.cell? ⟨w3.heap.size, 0, none⟩ = some (.int .i64 bk) := by rw [<- hw4]; exact za _ _ _ 0
  have o1 : w4.cell? ⟨w3.heap.size, 1, none⟩ = some (.int .i64 bn) := by rw [<- hw4]; exact za _ _ _ 1
  have o2 : w4.cell? ⟨w3.heap.size, 2, none⟩ = some (.string bS) := by rw [<- hw4]; exact za _ _ _ 2
  have p04 := (hb24.cell (p := ⟨w1.heap.size, 0, none⟩) hp12).trans p0
  have p14 := (hb24.cell (p := ⟨w1.heap.size, 1, none⟩) hp12).trans p1
  have p24 := (hb24.cell (p := ⟨w1.heap.size, 2, none⟩) hp12).trans p2
  have hs4 := hb24.size
  have hp14 : w1.heap.size < w4.heap.size := Nat.lt_of_lt_of_le hp12 hs4
  have ho34 : w3.heap.size < w4.heap.size := by rw [<- hw4]; simp
  have HW4 := Lib.hid hw4
  clear hb23 hb34 hb24 hb4 hw4 p0 p1 p2
  go_upto_region 19 with fail
  rw [HW4.out]
  have n0 := (HB4.out.cell (p := ⟨w.heap.size, 0, none⟩) hlt).trans N0.out
  have n1 := (HB4.out.cell (p := ⟨w.heap.size, 1, none⟩) hlt).trans N1.out
  have n2 := (HB4.out.cell (p := ⟨w.heap.size, 2, none⟩) hlt).trans N2.out
  have f0 := (HB4.out.frozen (p := ⟨w.heap.size, 0, none⟩) hlt).trans (NF.out 0)
  have f1 := (HB4.out.frozen (p := ⟨w.heap.size, 1, none⟩) hlt).trans (NF.out 1)
  have f2 := (HB4.out.frozen (p := ⟨w.heap.size, 2, none⟩) hlt).trans (NF.out 2)
  have S0 := Lib.hid (set3_0 (u0 := .int .i64 0) (u1 := .int .i64 0) (u2 := .string ⟨#[]⟩) n0)
  have S1 := Lib.hid (set3_1 (u0 := .int .i64 0) (u1 := .int .i64 0) (u2 := .string ⟨#[]⟩) n1)
  have S2 := Lib.hid (set3_2 (u0 := .int .i64 0) (u1 := .int .i64 0) (u2 := .string ⟨#[]⟩) n2)
  go_wp2_with fail
  have s0 := S0.out
  have s1 := S1.out
  have s2 := S2.out
  refine bodyPost_ret (v := .tuple #[.agg #[.int .i64 0, .int .i64 0, .string ⟨#[]⟩], .int .i64 3]) (by simp [results, Tryz.results79, go_sem, s0, s1, s2]) rfl ?_
  rw [<- HR.out, if_neg (by show ¬ (((1 : Int) == 1) && (bk == 1)) = true; rw [HBAD.out]; decide)]
  exact ⟨grown_new (zb (HBW.out.trans (HB4.out.mono HBW.out.size)) _) (grown_set3 _ _ _ _ _) (Nat.le_refl _), rfl⟩
 clear hc
 have HBAD := Lib.hid (show ((ak == 1) && (bk == 1)) = false from by simp [ha1])
 have hq1 : (ak != 1) = true := by simpa using ha1
 have HWBB := Lib.hid hwbb
 clear hwbb
 go_wp2_with fail
 refine (engAt_any g32 (HE.out.new k HB2.out).heap (Nat.lt_of_lt_of_le hGb HB2.out.size) ⟨bk, bn, bS⟩ (Or.inl HWBB.out)).mono ?_
 rintro e w3 ⟨rfl, hb23⟩
 obtain ⟨w4, hw4⟩ : ∃ w4, w3.alloc (.cells #[.int .i64 bk, .int .i64 bn, .string bS] 49) = w4 := ⟨_, rfl⟩
 have hb34 : Below w3.heap.size w3 w4 := by rw [<- hw4]; exact (Below.refl _ _).alloc (Nat.le_refl _) _
 have hb24 := hb23.trans (hb34.mono hb23.size)
 have hb4 := HB2.out.trans (hb24.mono HB2.out.size)
 have HB4 := Lib.hid hb4
 have o0 : w4.cell? ⟨w3.heap.size, 0, none⟩ = some (.int .i64 bk) := by rw [<- hw4]; exact za _ _ _ 0
 have o1 : w4.cell? ⟨w3.heap.size, 1, none⟩ = some (.int .i64 bn) := by rw [<- hw4]; exact za _ _ _ 1
 have o2 : w4.cell? ⟨w3.heap.size, 2, none⟩ = some (.string bS) := by rw [<- hw4]; exact za _ _ _ 2
 have p04 := (hb24.cell (p := ⟨w1.heap.size, 0, none⟩) hp12).trans p0
 have p14 := (hb24.cell (p := ⟨w1.heap.size, 1, none⟩) hp12).trans p1
 have p24 := (hb24.cell (p := ⟨w1.heap.size, 2, none⟩) hp12).trans p2
 have hs4 := hb24.size
 have hp14 : w1.heap.size < w4.heap.size := Nat.lt_of_lt_of_le hp12 hs4
 have ho34 : w3.heap.size < w4.heap.size := by rw [<- hw4]; simp
 have HW4 := Lib.hid hw4
 clear hb23 hb34 hb24 hb4 hw4 p0 p1 p2
 go_upto_region 19 with fail
 rw [HW4.out]
 have n0 := (HB4.out.cell (p := ⟨w.heap.size, 0, none⟩) hlt).trans N0.out
 have n1 := (HB4.out.cell (p := ⟨w.heap.size, 1, none⟩) hlt).trans N1.out
 have n2 := (HB4.out.cell (p := ⟨w.heap.size, 2, none⟩) hlt).trans N2.out
 have f0 := (HB4.out.frozen (p := ⟨w.heap.size, 0, none⟩) hlt).trans (NF.out 0)
 have f1 := (HB4.out.frozen (p := ⟨w.heap.size, 1, none⟩) hlt).trans (NF.out 1)
 have f2 := (HB4.out.frozen (p := ⟨w.heap.size, 2, none⟩) hlt).trans (NF.out 2)
 have S0 := Lib.hid (set3_0 (u0 := .int .i64 0) (u1 := .int .i64 0) (u2 := .string ⟨#[]⟩) n0)
 have S1 := Lib.hid (set3_1 (u0 := .int .i64 0) (u1 := .int .i64 0) (u2 := .string ⟨#[]⟩) n1)
 have S2 := Lib.hid (set3_2 (u0 := .int .i64 0) (u1 := .int .i64 0) (u2 := .string ⟨#[]⟩) n2)
 go_wp2_with fail
 have s0 := S0.out
 have s1 := S1.out
 have s2 := S2.out
 refine bodyPost_ret (v := .tuple #[.agg #[.int .i64 0, .int .i64 0, .string ⟨#[]⟩], .int .i64 3]) (by simp [results, Tryz.results79, go_sem, s0, s1, s2]) rfl ?_
 rw [<- HR.out, if_neg (by show ¬ ((ak == 1) && (bk == 1)) = true; rw [HBAD.out]; decide)]
 exact ⟨grown_new (zb (HBW.out.trans (HB4.out.mono HBW.out.size)) _) (grown_set3 _ _ _ _ _) (Nat.le_refl _), rfl⟩
theorem primOf_any (k : c.Ok) (h : Eng c w pc st hp fu A len cap v) (hsm : len + 3 <= 60000) {s : ByteArray} {l : List Wd} (hl : ∀ x ∈ l, WIn hp x) (ha : arP s = l.length) (h1 : 1 <= l.length) : PrimSays c w pc st hp fu A len v s l := by
 have q : ∀ {a c : ByteArray}, (a.data.toList == c.data.toList) = false -> (a.toList == c.data.toList) = false := fun h => by rw [ByteArray.toList_eq]; exact h
 unfold arP at ha
 split at ha
 ·
  rename_i hm
  match l, ha with
  | [⟨ak, an, aS⟩, ⟨bk, bn, bS⟩], _ =>
   have ha1 := hl _ (List.mem_cons_self ..)
   have hb1 := hl _ (List.mem_cons_of_mem _ (List.mem_cons_self ..))
   rcases hm with rfl | rfl | rfl | rfl | rfl | rfl | rfl | rfl | rfl
   ·
    exact prim_two (q (c := ⟨#[99, 111, 110, 115]⟩) rfl) (q (c := ⟨#[99, 97, 114]⟩) rfl) (q (c := ⟨#[99, 100, 114]⟩) rfl) (q (c := ⟨#[110, 117, 108, 108, 63]⟩) rfl) (q (c := ⟨#[112, 97, 105, 114, 63]⟩) rfl) (q (c := ⟨#[110, 111, 116]⟩) rfl) (q (c := ⟨#[101, 113, 63]⟩) rfl) (q (c := ⟨#[101, 114, 114, 111, 114]⟩) rfl) (by decide) (by decide) k h ha1 hb1 (fun W hx hy => by rw [calcW_plus]; exact calc_plus _ _ W hx hy)
   ·
    exact prim_two (q (c := ⟨#[99, 111, 110, 115]⟩) rfl) (q (c := ⟨#[99, 97, 114]⟩) rfl) (q (c := ⟨#[99, 100, 114]⟩) rfl) (q (c := ⟨#[110, 117, 108, 108, 63]⟩) rfl) (q (c := ⟨#[112, 97, 105, 114, 63]⟩) rfl) (q (c := ⟨#[110, 111, 116]⟩) rfl) (q (c := ⟨#[101, 113, 63]⟩) rfl) (q (c := ⟨#[101, 114, 114, 111, 114]⟩) rfl) (by decide) (by decide) k h ha1 hb1 (fun W hx hy => by rw [calcW_minus]; exact calc_minus _ _ W hx hy)
   ·
    exact prim_two (q (c := ⟨#[99, 111, 110, 115]⟩) rfl) (q (c := ⟨#[99, 97, 114]⟩) rfl) (q (c := ⟨#[99, 100, 114]⟩) rfl) (q (c := ⟨#[110, 117, 108, 108, 63]⟩) rfl) (q (c := ⟨#[112, 97, 105, 114, 63]⟩) rfl) (q (c := ⟨#[110, 111, 116]⟩) rfl) (q (c := ⟨#[101, 113, 63]⟩) rfl) (q (c := ⟨#[101, 114, 114, 111, 114]⟩) rfl) (by decide) (by decide) k h ha1 hb1 (fun W hx hy => by rw [calcW_times]; exact calc_times _ _ W hx hy)
   ·
    exact prim_two (q (c := ⟨#[99, 111, 110, 115]⟩) rfl) (q (c := ⟨#[99, 97, 114]⟩) rfl) (q (c := ⟨#[99, 100, 114]⟩) rfl) (q (c := ⟨#[110, 117, 108, 108, 63]⟩) rfl) (q (c := ⟨#[112, 97, 105, 114, 63]⟩) rfl) (q (c := ⟨#[110, 111, 116]⟩) rfl) (q (c := ⟨#[101, 113, 63]⟩) rfl) (q (c := ⟨#[101, 114, 114, 111, 114]⟩) rfl) (by decide) (by decide) k h ha1 hb1 (fun W hx hy => by rw [calcW_quot]; exact calc_quot _ _ W hx hy)
   ·
    exact prim_two (q (c := ⟨#[99, 111, 110, 115]⟩) rfl) (q (c := ⟨#[99, 97, 114]⟩) rfl) (q (c := ⟨#[99, 100, 114]⟩) rfl) (q (c := ⟨#[110, 117, 108, 108, 63]⟩) rfl) (q (c := ⟨#[112, 97, 105, 114, 63]⟩) rfl) (q (c := ⟨#[110, 111, 116]⟩) rfl) (q (c := ⟨#[101, 113, 63]⟩) rfl) (q (c := ⟨#[101, 114, 114, 111, 114]⟩) rfl) (by decide) (by decide) k h ha1 hb1 (fun W hx hy => by rw [calcW_rem]; exact calc_rem _ _ W hx hy)
   ·
    exact prim_two (q (c := ⟨#[99, 111, 110, 115]⟩) rfl) (q (c := ⟨#[99, 97, 114]⟩) rfl) (q (c := ⟨#[99, 100, 114]⟩) rfl) (q (c := ⟨#[110, 117, 108, 108, 63]⟩) rfl) (q (c := ⟨#[112, 97, 105, 114, 63]⟩) rfl) (q (c := ⟨#[110, 111, 116]⟩) rfl) (q (c := ⟨#[101, 113, 63]⟩) rfl) (q (c := ⟨#[101, 114, 114, 111, 114]⟩) rfl) (by decide) (by decide) k h ha1 hb1 (fun W hx hy => by rw [calcW_eq]; exact calc_eq _ _ W)
   ·
    exact prim_two (q (c := ⟨#[99, 111, 110, 115]⟩) rfl) (q (c := ⟨#[99, 97, 114]⟩) rfl) (q (c := ⟨#[99, 100, 114]⟩) rfl) (q (c := ⟨#[110, 117, 108, 108, 63]⟩) rfl) (q (c := ⟨#[112, 97, 105, 114, 63]⟩) rfl) (q (c := ⟨#[110, 111, 116]⟩) rfl) (q (c := ⟨#[101, 113, 63]⟩) rfl) (q (c := ⟨#[101, 114, 114, 111, 114]⟩) rfl) (by decide) (by decide) k h ha1 hb1 (fun W hx hy => by rw [calcW_lt]; exact calc_lt _ _ W)
   ·
    exact prim_cons k h ha1 hb1 hsm
   exact prim_eqq k h ha1 hb1
 split at ha
 ·
  rename_i hm
  match l, ha with
  | [⟨ak, an, aS⟩], _ =>
   have ha1 := hl _ (List.mem_cons_self ..)
   rcases hm with rfl | rfl | rfl | rfl | rfl | rfl
   ·
    exact prim_car k h ha1
   ·
    exact prim_cdr k h ha1
   ·
    exact prim_null k h ha1
   ·
    exact prim_pair k h ha1
   ·
    exact prim_not k h ha1
   exact prim_error k h ha1
 omega
end
end Go.Proofs.YtfhbdlobhjegcaaGreatDoor
