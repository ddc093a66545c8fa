import Derived.Test.YtfhbdlobhjegcaaGreatDoorGSab
import Derived.Test.YtfhbdlobhjegcaaGreatDoorQk
import Derived.Test.YtfhbdlobhjegcaaGreatDoorRd
import Derived.LaidEql
import Derived.StillTailTactics
namespace Go.Proofs.YtfhbdlobhjegcaaGreatDoor
open Go.RowKit Go.ChangeShapes Go.WideShapes Go.Deep Go.ChangeAt
set_option linter.unusedVariables false
set_option maxRecDepth 20000
def PvPost (R : Nat) (w : World) (lo : Nat) (r : Rs Vl) (e : Ending) (w' : World) : Prop := Rnr R w w' /\ match r with
 | .ok v => ∃ k n s p, e = .returned (.tuple #[.agg #[.int .i64 k, .int .i64 n, .string s, .pointer p], .int .i64 0]) /\ VlIn w' lo w'.heap.size ⟨k, n, s, p⟩ v
 | .error er => ∃ k n s p, e = .returned (.tuple #[.agg #[.int .i64 k, .int .i64 n, .string s, .pointer p], .int .i64 er])
structure PA1 (w : World) (R lo b o cl : Nat) (x : MV) (v : Vl) : Prop where
 rl : R < w.heap.size
 c4 : ∃ n : Int, w.cell? ⟨R, 4, none⟩ = some (.int .i64 n)
 rf : w.frozen? ⟨R, 4, none⟩ = false
 rlo : R < lo
 bl : b < w.heap.size
 row : RowAt w b o x.cells
 cl1 : 1 <= cl
 cl2 : cl <= maxLen
 vl : VlIn w lo w.heap.size x v
structure PA2 (w : World) (R lo m b o cl : Nat) (x y : MV) (u v : Vl) : Prop where
 rl : R < w.heap.size
 c4 : ∃ n : Int, w.cell? ⟨R, 4, none⟩ = some (.int .i64 n)
 rf : w.frozen? ⟨R, 4, none⟩ = false
 rlo : R < lo
 bl : b < w.heap.size
 bne : b ≠ R
 row : RowAt w b o x.cells
 row2 : RowAt w b (o + 4) y.cells
 cl1 : 2 <= cl
 cl2 : cl <= maxLen
 lom : lo <= m
 msz : m <= w.heap.size
 vl : VlIn w lo m x u
 vl2 : VlIn w m w.heap.size y v
def PvSays (w : World) (R lo : Nat) (s : ByteArray) (n b o cl : Nat) (r : Rs Vl) : Prop := Calls Tryz.prog 104 #[.pointer (some ⟨R, 0, none⟩), .string s, .slice (some ⟨b, o, none⟩) n cl] w (PvPost R w lo r)
theorem pv_end {w wb w5 w6 : World} {R O : Nat} {x y : MV} (hR : R < w.heap.size) (hO : w.heap.size = O) (hwb : w.alloc (.cells #[.int .i64 0, .int .i64 0, .string ⟨#[]⟩, .pointer none] 98) = wb) (h5 : Rnr R wb w5) (h6 : (((w5.setCell ⟨O, 0, none⟩ (.int .i64 x.k)).setCell ⟨O, 1, none⟩ (.int .i64 x.n)).setCell ⟨O, 2, none⟩ (.string x.s)).setCell ⟨O, 3, none⟩ (.pointer x.p) = w6) (hy : RowAt w5 O 0 y.cells) :
  Rnr R w w6 /\ ∀ b, b < w.heap.size -> b ≠ R -> w6.heap[b]? = w.heap[b]? := by
 subst hO
 obtain ⟨_, g, _⟩ := set4_at h6 hy
 have hb : Below w.heap.size w wb := by rw [<- hwb]; exact (Below.refl _ _).alloc (Nat.le_refl _) _
 have h := ((Rnr.new hb hR).trans h5).set2 hR (Nat.le_refl _) g
 exact ⟨h, fun b hl hne => h.block b hl hne⟩
theorem VlIn.atom {w w' : World} {lo hi lo' hi' : Nat} {k n : Int} {s : ByteArray} {v : Vl} (h : VlIn w lo hi ⟨k, n, s, none⟩ v) : VlIn w' lo' hi' ⟨k, n, s, none⟩ v := by
 cases h with
 | int n => exact .int n
 | bool n => exact .bool n
 | nil => exact .nil
 | sym s => exact .sym s
theorem vl_bool (w : World) (lo hi : Nat) (b : Bool) : VlIn w lo hi ⟨2, if b then 1 else 0, ⟨#[]⟩, none⟩ (bV b) := .bool _
theorem vl_calc {s : ByteArray} {a b : Int} {v : Vl} (h : calcV s a b = .ok v) : ∃ x : Wd, calcW s a b = .ok x /\ ∀ w lo hi, VlIn w lo hi ⟨x.k, x.n, x.s, none⟩ v := by
 obtain ⟨x, hx, hv⟩ := (calc_w (s := s) (a := a) (b := b)).1 v h
 refine ⟨x, hx, fun w lo hi => ?_⟩
 have := hv [] 0 0
 cases this with
 | int n => exact .int n
 | bool n => exact .bool n
 | nil => exact .nil
 | sym s => exact .sym s
 | pair i hi1 => exact absurd hi1 (by simp)
theorem VlIn.notInt {w : World} {lo hi : Nat} {k n : Int} {s : ByteArray} {v : Vl} (h : VlIn w lo hi ⟨k, n, s, none⟩ v) (hk : k ≠ 1) : ∀ m, v ≠ .int m := by
 intro m e
 subst e
 cases h
 exact hk rfl
def sameM (x y : MV) : Bool := sameW ⟨x.k, x.n, x.s⟩ ⟨y.k, y.n, y.s⟩ && decide (x.p = y.p)
theorem same_m {w : World} {lo m hi : Nat} {x y : MV} {u v : Vl} (h1 : VlIn w lo m x u) (h2 : VlIn w m hi y v) : sameM x y = sameV u v := by
 cases h1 <;> cases h2 <;> first | (simp [sameM, sameW, sameV]; done) | (simp [sameM, sameW, sameV]; omega)
theorem eqPtr (d : Nat) (p p' : Option Addr) {w : World} (hp : ∀ a b, p = some a -> p' = some b -> a ≠ b /\ (∃ c, w.heap[a.block]? = some (.cells c 137)) /\ ∃ c, w.heap[b.block]? = some (.cells c 137)) : (Op.equalIn (d + 1) 96 (.pointer p) (.pointer p')).run Tryz.prog w = .ok (decide (p = p')) w := by
 have hu := Tryz.underlying96
 cases p with
 | none => cases p' <;> simp [Op.equalIn, run_underlying hu]
 | some a =>
  cases p' with
  | none => simp [Op.equalIn, run_underlying hu]
  | some b =>
   obtain ⟨hne, ⟨ca, ha⟩, ⟨cb, hb⟩⟩ := hp a b rfl rfl
   have hs : Tryz.t137.size = 15 := by kernel_rfl
   rw [show decide (some a = some b) = false by simpa using hne]
   simp [Op.equalIn, run_underlying hu, sizeOf, hs, run_sameAddr_other w hne ha hb]
theorem structVal : Tryz.prog.underlying 98 = some (.struct (Tryz.prog.fieldsOf 98)) := by kernel_rfl
theorem heldVal : Tryz.prog.stoodInHeld 98 = false := by kernel_rfl
theorem eqlVal (x y : MV) {w : World} (hp : ∀ a b, x.p = some a -> y.p = some b -> a ≠ b /\ (∃ c, w.heap[a.block]? = some (.cells c 137)) /\ ∃ c, w.heap[b.block]? = some (.cells c 137)) : (binOp .eql 98 x.agg y.agg).run Tryz.prog w = .ok (.bool (sameM x y)) w := by
 obtain ⟨k, n, s, p⟩ := x
 obtain ⟨k', n', s', p'⟩ := y
 simp only at hp
 have hq := eqPtr 9998 p p' hp
 unfold MV.agg sameM
 simp only
 rw [run_eql_struct, show (10000 : Nat) = 9999 + 1 from rfl, run_equalIn_struct w 9999 98 _ _ structVal heldVal]
 simp only [Program.fieldsOf, Tryz.underlying98]
 go_simp
 unfold sameW
 by_cases hk : k = k'
 ·
  by_cases hn : n = n'
  ·
   by_cases hs : s = s'
   ·
    subst hk hn hs
    by_cases hpp : p = p' <;> simp [hpp]
   have hs2 : ¬ s.toList = s'.toList := fun h => hs (bytes_eq h)
   rw [if_pos hk, if_pos hn, if_neg hs2, decide_eq_false hs]
   simp
  rw [if_pos hk, if_neg hn, show (n == n') = false by simpa using hn]
  simp
 rw [if_neg hk, show (k == k') = false by simpa using hk]
 simp
set_option maxHeartbeats 4000000 in
theorem pv_error {w : World} {R lo b o cl : Nat} {k n : Int} {s : ByteArray} {p : Option Addr} {v : Vl} (h : PA1 w R lo b o cl ⟨k, n, s, p⟩ v) : PvSays w R lo sError 1 b o cl (.error 14) := by
 obtain ⟨a0, a1, a2, a3⟩ := MV.at_ h.row
 simp only at a0 a1 a2 a3
 have hcl := h.cl2
 have hcl2 : cl <= 9223372036854775807 := by unfold maxLen at hcl; omega
 have hcl0 : (0 : Int) < (cl : Int) := by have := h.cl1; omega
 obtain ⟨wb, hwb⟩ : ∃ wb, w.alloc (.cells #[.int .i64 0, .int .i64 0, .string ⟨#[]⟩, .pointer none] 98) = wb := ⟨_, rfl⟩
 have hb : Below w.heap.size w wb := by rw [<- hwb]; exact (Below.refl _ _).alloc (Nat.le_refl _) _
 have hbl := h.bl
 have a0 := (hb.cell (p := ⟨b, o, none⟩) hbl).trans a0
 have a1 := (hb.cell (p := ⟨b, o + 1, none⟩) hbl).trans a1
 have a2 := (hb.cell (p := ⟨b, o + 2, none⟩) hbl).trans a2
 have a3 := (hb.cell (p := ⟨b, o + 3, none⟩) hbl).trans a3
 have KU := Lib.hid (show ∀ W, Rnr R wb W -> (W.cell? ⟨w.heap.size, 0, none⟩ = some (.int .i64 0) /\ W.cell? ⟨w.heap.size, 1, none⟩ = some (.int .i64 0) /\ W.cell? ⟨w.heap.size, 2, none⟩ = some (.string ⟨#[]⟩) /\ W.cell? ⟨w.heap.size, 3, none⟩ = some (.pointer none)) /\ (W.frozen? ⟨w.heap.size, 0, none⟩ = false /\ W.frozen? ⟨w.heap.size, 1, none⟩ = false /\ W.frozen? ⟨w.heap.size, 2, none⟩ = false /\ W.frozen? ⟨w.heap.size, 3, none⟩ = false) from fun W hW => by
  have hl : w.heap.size < wb.heap.size := by rw [<- hwb]; simp
  have a : ∀ j, W.cell? ⟨w.heap.size, j, none⟩ = (#[.int .i64 0, .int .i64 0, .string ⟨#[]⟩, .pointer none] : Array Value)[j]? := fun j => (hW.at_ j hl h.rl).trans (by rw [<- hwb]; exact za _ _ _ j)
  have f : ∀ j, W.frozen? ⟨w.heap.size, j, none⟩ = false := fun j => (hW.fzn j hl h.rl).trans (by rw [<- hwb]; exact ze _ _ _ _)
  exact ⟨⟨a 0, a 1, a 2, a 3⟩, f 0, f 1, f 2, f 3⟩)
 have hlt : w.heap.size < wb.heap.size := by rw [<- hwb]; simp
 have HWB := Lib.hid hwb
 have HB := Lib.hid hb
 have HH := Lib.hid h
 have hRb : R < wb.heap.size := Nat.lt_of_lt_of_le h.rl hb.size
 unfold PvSays sError
 clear h hwb hb hcl hbl
 go_enter Tryz.func104, Tryz.ntmps104
 go_upto_region 1 with fail
 rw [HWB.out]
 obtain ⟨⟨u0, u1, u2, u3⟩, f0, f1, f2, f3⟩ := KU.out wb (Rnr.refl R wb)
 have S := Lib.hid (set4_any (a0 := .int .i64 0) (a1 := .int .i64 0) (a2 := .string ⟨#[]⟩) (a3 := .pointer none) rfl u0 u1 u2 u3)
 have HE := Lib.hid (pv_end (x := ⟨0, 0, ⟨#[]⟩, none⟩) (y := ⟨0, 0, ⟨#[]⟩, none⟩) HH.out.rl rfl HWB.out (Rnr.refl R wb) rfl (MV.row u0 u1 u2 u3))
 go_wp2_with fail
 obtain ⟨⟨s0, s1, s2, s3⟩, hg⟩ := S.out
 refine bodyPost_ret (v := .tuple #[.agg #[.int .i64 0, .int .i64 0, .string ⟨#[]⟩, .pointer none], .int .i64 14]) (by simp [results, Tryz.results104, go_sem, s0, s1, s2, s3]) rfl ?_
 exact ⟨HE.out.1, _, _, _, _, rfl⟩
set_option maxHeartbeats 4000000 in
theorem pv_null {w : World} {R lo b o cl : Nat} {k n : Int} {s : ByteArray} {p : Option Addr} {v : Vl} (h : PA1 w R lo b o cl ⟨k, n, s, p⟩ v) : PvSays w R lo sNull 1 b o cl (.ok (bV (isN v))) := by
 cases h.vl with
 | int n =>
  obtain ⟨a0, a1, a2, a3⟩ := MV.at_ h.row
  simp only at a0 a1 a2 a3
  have hcl := h.cl2
  have hcl2 : cl <= 9223372036854775807 := by unfold maxLen at hcl; omega
  have hcl0 : (0 : Int) < (cl : Int) := by have := h.cl1; omega
  obtain ⟨wb, hwb⟩ : ∃ wb, w.alloc (.cells #[.int .i64 0, .int .i64 0, .string ⟨#[]⟩, .pointer none] 98) = wb := ⟨_, rfl⟩
  have hb : Below w.heap.size w wb := by rw [<- hwb]; exact (Below.refl _ _).alloc (Nat.le_refl _) _
  have hbl := h.bl
  have a0 := (hb.cell (p := ⟨b, o, none⟩) hbl).trans a0
  have a1 := (hb.cell (p := ⟨b, o + 1, none⟩) hbl).trans a1
  have a2 := (hb.cell (p := ⟨b, o + 2, none⟩) hbl).trans a2
  have a3 := (hb.cell (p := ⟨b, o + 3, none⟩) hbl).trans a3
  have KU := Lib.hid (show ∀ W, Rnr R wb W -> (W.cell? ⟨w.heap.size, 0, none⟩ = some (.int .i64 0) /\ W.cell? ⟨w.heap.size, 1, none⟩ = some (.int .i64 0) /\ W.cell? ⟨w.heap.size, 2, none⟩ = some (.string ⟨#[]⟩) /\ W.cell? ⟨w.heap.size, 3, none⟩ = some (.pointer none)) /\ (W.frozen? ⟨w.heap.size, 0, none⟩ = false /\ W.frozen? ⟨w.heap.size, 1, none⟩ = false /\ W.frozen? ⟨w.heap.size, 2, none⟩ = false /\ W.frozen? ⟨w.heap.size, 3, none⟩ = false) from fun W hW => by
   have hl : w.heap.size < wb.heap.size := by rw [<- hwb]; simp
   have a : ∀ j, W.cell? ⟨w.heap.size, j, none⟩ = (#[.int .i64 0, .int .i64 0, .string ⟨#[]⟩, .pointer none] : Array Value)[j]? := fun j => (hW.at_ j hl h.rl).trans (by rw [<- hwb]; exact za _ _ _ j)
   have f : ∀ j, W.frozen? ⟨w.heap.size, j, none⟩ = false := fun j => (hW.fzn j hl h.rl).trans (by rw [<- hwb]; exact ze _ _ _ _)
   exact ⟨⟨a 0, a 1, a 2, a 3⟩, f 0, f 1, f 2, f 3⟩)
  have hlt : w.heap.size < wb.heap.size := by rw [<- hwb]; simp
  have HWB := Lib.hid hwb
  have HB := Lib.hid hb
  have HH := Lib.hid h
  have hRb : R < wb.heap.size := Nat.lt_of_lt_of_le h.rl hb.size
  unfold PvSays sNull
  clear h hwb hb hcl hbl
  go_enter Tryz.func104, Tryz.ntmps104
  go_upto_region 1 with fail
  rw [HWB.out]
  go_wp2_with fail
  refine (asBool_any false _).mono ?_
  rintro e w3 ⟨rfl, hb3⟩
  rw [show (boolW false).agg = .agg #[.int .i64 2, .int .i64 (if false then 1 else 0), .string ⟨#[]⟩] from rfl]
  obtain ⟨z, hz⟩ : ∃ z : Int, (if false = true then (1 : Int) else 0) = z := ⟨_, rfl⟩
  rw [hz]
  have HZ := Lib.hid hz
  have r3 := Lib.hid (Rnr.trans (Rnr.refl R wb) (Rnr.new hb3 (Nat.lt_of_lt_of_le hRb ((Rnr.refl R wb)).size)))
  clear hb3 hz
  go_wp2_with fail
  refine (asVal_any 2 z ⟨#[]⟩ _).mono ?_
  rintro e w4 ⟨rfl, hb4⟩
  have r4 := Lib.hid (r3.out.trans (Rnr.new hb4 (Nat.lt_of_lt_of_le hRb r3.out.size)))
  clear hb4
  obtain ⟨⟨u0, u1, u2, u3⟩, f0, f1, f2, f3⟩ := KU.out w4 r4.out
  have S := Lib.hid (set4_any (a0 := .int .i64 2) (a1 := .int .i64 z) (a2 := .string ⟨#[]⟩) (a3 := .pointer none) rfl u0 u1 u2 u3)
  have HE := Lib.hid (pv_end (x := ⟨2, z, ⟨#[]⟩, none⟩) (y := ⟨0, 0, ⟨#[]⟩, none⟩) HH.out.rl rfl HWB.out r4.out rfl (MV.row u0 u1 u2 u3))
  go_wp2_with fail
  obtain ⟨⟨s0, s1, s2, s3⟩, hg⟩ := S.out
  refine bodyPost_ret (v := .tuple #[.agg #[.int .i64 2, .int .i64 z, .string ⟨#[]⟩, .pointer none], .int .i64 0]) (by simp [results, Tryz.results104, go_sem, s0, s1, s2, s3]) rfl ?_
  exact ⟨HE.out.1, _, _, _, _, rfl, by rw [<- HZ.out]; exact vl_bool _ _ _ false⟩
 | bool n =>
  obtain ⟨a0, a1, a2, a3⟩ := MV.at_ h.row
  simp only at a0 a1 a2 a3
  have hcl := h.cl2
  have hcl2 : cl <= 9223372036854775807 := by unfold maxLen at hcl; omega
  have hcl0 : (0 : Int) < (cl : Int) := by have := h.cl1; omega
  obtain ⟨wb, hwb⟩ : ∃ wb, w.alloc (.cells #[.int .i64 0, .int .i64 0, .string ⟨#[]⟩, .pointer none] 98) = wb := ⟨_, rfl⟩
  have hb : Below w.heap.size w wb := by rw [<- hwb]; exact (Below.refl _ _).alloc (Nat.le_refl _) _
  have hbl := h.bl
  have a0 := (hb.cell (p := ⟨b, o, none⟩) hbl).trans a0
  have a1 := (hb.cell (p := ⟨b, o + 1, none⟩) hbl).trans a1
  have a2 := (hb.cell (p := ⟨b, o + 2, none⟩) hbl).trans a2
  have a3 := (hb.cell (p := ⟨b, o + 3, none⟩) hbl).trans a3
  have KU := Lib.hid (show ∀ W, Rnr R wb W -> (W.cell? ⟨w.heap.size, 0, none⟩ = some (.int .i64 0) /\ W.cell? ⟨w.heap.size, 1, none⟩ = some (.int .i64 0) /\ W.cell? ⟨w.heap.size, 2, none⟩ = some (.string ⟨#[]⟩) /\ W.cell? ⟨w.heap.size, 3, none⟩ = some (.pointer none)) /\ (W.frozen? ⟨w.heap.size, 0, none⟩ = false /\ W.frozen? ⟨w.heap.size, 1, none⟩ = false /\ W.frozen? ⟨w.heap.size, 2, none⟩ = false /\ W.frozen? ⟨w.heap.size, 3, none⟩ = false) from fun W hW => by
   have hl : w.heap.size < wb.heap.size := by rw [<- hwb]; simp
   have a : ∀ j, W.cell? ⟨w.heap.size, j, none⟩ = (#[.int .i64 0, .int .i64 0, .string ⟨#[]⟩, .pointer none] : Array Value)[j]? := fun j => (hW.at_ j hl h.rl).trans (by rw [<- hwb]; exact za _ _ _ j)
   have f : ∀ j, W.frozen? ⟨w.heap.size, j, none⟩ = false := fun j => (hW.fzn j hl h.rl).trans (by rw [<- hwb]; exact ze _ _ _ _)
   exact ⟨⟨a 0, a 1, a 2, a 3⟩, f 0, f 1, f 2, f 3⟩)
  have hlt : w.heap.size < wb.heap.size := by rw [<- hwb]; simp
  have HWB := Lib.hid hwb
  have HB := Lib.hid hb
  have HH := Lib.hid h
  have hRb : R < wb.heap.size := Nat.lt_of_lt_of_le h.rl hb.size
  unfold PvSays sNull
  clear h hwb hb hcl hbl
  go_enter Tryz.func104, Tryz.ntmps104
  go_upto_region 1 with fail
  rw [HWB.out]
  go_wp2_with fail
  refine (asBool_any false _).mono ?_
  rintro e w3 ⟨rfl, hb3⟩
  rw [show (boolW false).agg = .agg #[.int .i64 2, .int .i64 (if false then 1 else 0), .string ⟨#[]⟩] from rfl]
  obtain ⟨z, hz⟩ : ∃ z : Int, (if false = true then (1 : Int) else 0) = z := ⟨_, rfl⟩
  rw [hz]
  have HZ := Lib.hid hz
  have r3 := Lib.hid (Rnr.trans (Rnr.refl R wb) (Rnr.new hb3 (Nat.lt_of_lt_of_le hRb ((Rnr.refl R wb)).size)))
  clear hb3 hz
  go_wp2_with fail
  refine (asVal_any 2 z ⟨#[]⟩ _).mono ?_
  rintro e w4 ⟨rfl, hb4⟩
  have r4 := Lib.hid (r3.out.trans (Rnr.new hb4 (Nat.lt_of_lt_of_le hRb r3.out.size)))
  clear hb4
  obtain ⟨⟨u0, u1, u2, u3⟩, f0, f1, f2, f3⟩ := KU.out w4 r4.out
  have S := Lib.hid (set4_any (a0 := .int .i64 2) (a1 := .int .i64 z) (a2 := .string ⟨#[]⟩) (a3 := .pointer none) rfl u0 u1 u2 u3)
  have HE := Lib.hid (pv_end (x := ⟨2, z, ⟨#[]⟩, none⟩) (y := ⟨0, 0, ⟨#[]⟩, none⟩) HH.out.rl rfl HWB.out r4.out rfl (MV.row u0 u1 u2 u3))
  go_wp2_with fail
  obtain ⟨⟨s0, s1, s2, s3⟩, hg⟩ := S.out
  refine bodyPost_ret (v := .tuple #[.agg #[.int .i64 2, .int .i64 z, .string ⟨#[]⟩, .pointer none], .int .i64 0]) (by simp [results, Tryz.results104, go_sem, s0, s1, s2, s3]) rfl ?_
  exact ⟨HE.out.1, _, _, _, _, rfl, by rw [<- HZ.out]; exact vl_bool _ _ _ false⟩
 | nil  =>
  obtain ⟨a0, a1, a2, a3⟩ := MV.at_ h.row
  simp only at a0 a1 a2 a3
  have hcl := h.cl2
  have hcl2 : cl <= 9223372036854775807 := by unfold maxLen at hcl; omega
  have hcl0 : (0 : Int) < (cl : Int) := by have := h.cl1; omega
  obtain ⟨wb, hwb⟩ : ∃ wb, w.alloc (.cells #[.int .i64 0, .int .i64 0, .string ⟨#[]⟩, .pointer none] 98) = wb := ⟨_, rfl⟩
  have hb : Below w.heap.size w wb := by rw [<- hwb]; exact (Below.refl _ _).alloc (Nat.le_refl _) _
  have hbl := h.bl
  have a0 := (hb.cell (p := ⟨b, o, none⟩) hbl).trans a0
  have a1 := (hb.cell (p := ⟨b, o + 1, none⟩) hbl).trans a1
  have a2 := (hb.cell (p := ⟨b, o + 2, none⟩) hbl).trans a2
  have a3 := (hb.cell (p := ⟨b, o + 3, none⟩) hbl).trans a3
  have KU := Lib.hid (show ∀ W, Rnr R wb W -> (W.cell? ⟨w.heap.size, 0, none⟩ = some (.int .i64 0) /\ W.cell? ⟨w.heap.size, 1, none⟩ = some (.int .i64 0) /\ W.cell? ⟨w.heap.size, 2, none⟩ = some (.string ⟨#[]⟩) /\ W.cell? ⟨w.heap.size, 3, none⟩ = some (.pointer none)) /\ (W.frozen? ⟨w.heap.size, 0, none⟩ = false /\ W.frozen? ⟨w.heap.size, 1, none⟩ = false /\ W.frozen? ⟨w.heap.size, 2, none⟩ = false /\ W.frozen? ⟨w.heap.size, 3, none⟩ = false) from fun W hW => by
   have hl : w.heap.size < wb.heap.size := by rw [<- hwb]; simp
   have a : ∀ j, W.cell? ⟨w.heap.size, j, none⟩ = (#[.int .i64 0, .int .i64 0, .string ⟨#[]⟩, .pointer none] : Array Value)[j]? := fun j => (hW.at_ j hl h.rl).trans (by rw [<- hwb]; exact za _ _ _ j)
   have f : ∀ j, W.frozen? ⟨w.heap.size, j, none⟩ = false := fun j => (hW.fzn j hl h.rl).trans (by rw [<- hwb]; exact ze _ _ _ _)
   exact ⟨⟨a 0, a 1, a 2, a 3⟩, f 0, f 1, f 2, f 3⟩)
  have hlt : w.heap.size < wb.heap.size := by rw [<- hwb]; simp
  have HWB := Lib.hid hwb
  have HB := Lib.hid hb
  have HH := Lib.hid h
  have hRb : R < wb.heap.size := Nat.lt_of_lt_of_le h.rl hb.size
  unfold PvSays sNull
  clear h hwb hb hcl hbl
  go_enter Tryz.func104, Tryz.ntmps104
  go_upto_region 1 with fail
  rw [HWB.out]
  go_wp2_with fail
  refine (asBool_any true _).mono ?_
  rintro e w3 ⟨rfl, hb3⟩
  rw [show (boolW true).agg = .agg #[.int .i64 2, .int .i64 (if true then 1 else 0), .string ⟨#[]⟩] from rfl]
  obtain ⟨z, hz⟩ : ∃ z : Int, (if true = true then (1 : Int) else 0) = z := ⟨_, rfl⟩
  rw [hz]
  have HZ := Lib.hid hz
  have r3 := Lib.hid (Rnr.trans (Rnr.refl R wb) (Rnr.new hb3 (Nat.lt_of_lt_of_le hRb ((Rnr.refl R wb)).size)))
  clear hb3 hz
  go_wp2_with fail
  refine (asVal_any 2 z ⟨#[]⟩ _).mono ?_
  rintro e w4 ⟨rfl, hb4⟩
  have r4 := Lib.hid (r3.out.trans (Rnr.new hb4 (Nat.lt_of_lt_of_le hRb r3.out.size)))
  clear hb4
  obtain ⟨⟨u0, u1, u2, u3⟩, f0, f1, f2, f3⟩ := KU.out w4 r4.out
  have S := Lib.hid (set4_any (a0 := .int .i64 2) (a1 := .int .i64 z) (a2 := .string ⟨#[]⟩) (a3 := .pointer none) rfl u0 u1 u2 u3)
  have HE := Lib.hid (pv_end (x := ⟨2, z, ⟨#[]⟩, none⟩) (y := ⟨0, 0, ⟨#[]⟩, none⟩) HH.out.rl rfl HWB.out r4.out rfl (MV.row u0 u1 u2 u3))
  go_wp2_with fail
  obtain ⟨⟨s0, s1, s2, s3⟩, hg⟩ := S.out
  refine bodyPost_ret (v := .tuple #[.agg #[.int .i64 2, .int .i64 z, .string ⟨#[]⟩, .pointer none], .int .i64 0]) (by simp [results, Tryz.results104, go_sem, s0, s1, s2, s3]) rfl ?_
  exact ⟨HE.out.1, _, _, _, _, rfl, by rw [<- HZ.out]; exact vl_bool _ _ _ true⟩
 | sym s =>
  obtain ⟨a0, a1, a2, a3⟩ := MV.at_ h.row
  simp only at a0 a1 a2 a3
  have hcl := h.cl2
  have hcl2 : cl <= 9223372036854775807 := by unfold maxLen at hcl; omega
  have hcl0 : (0 : Int) < (cl : Int) := by have := h.cl1; omega
  obtain ⟨wb, hwb⟩ : ∃ wb, w.alloc (.cells #[.int .i64 0, .int .i64 0, .string ⟨#[]⟩, .pointer none] 98) = wb := ⟨_, rfl⟩
  have hb : Below w.heap.size w wb := by rw [<- hwb]; exact (Below.refl _ _).alloc (Nat.le_refl _) _
  have hbl := h.bl
  have a0 := (hb.cell (p := ⟨b, o, none⟩) hbl).trans a0
  have a1 := (hb.cell (p := ⟨b, o + 1, none⟩) hbl).trans a1
  have a2 := (hb.cell (p := ⟨b, o + 2, none⟩) hbl).trans a2
  have a3 := (hb.cell (p := ⟨b, o + 3, none⟩) hbl).trans a3
  have KU := Lib.hid (show ∀ W, Rnr R wb W -> (W.cell? ⟨w.heap.size, 0, none⟩ = some (.int .i64 0) /\ W.cell? ⟨w.heap.size, 1, none⟩ = some (.int .i64 0) /\ W.cell? ⟨w.heap.size, 2, none⟩ = some (.string ⟨#[]⟩) /\ W.cell? ⟨w.heap.size, 3, none⟩ = some (.pointer none)) /\ (W.frozen? ⟨w.heap.size, 0, none⟩ = false /\ W.frozen? ⟨w.heap.size, 1, none⟩ = false /\ W.frozen? ⟨w.heap.size, 2, none⟩ = false /\ W.frozen? ⟨w.heap.size, 3, none⟩ = false) from fun W hW => by
   have hl : w.heap.size < wb.heap.size := by rw [<- hwb]; simp
   have a : ∀ j, W.cell? ⟨w.heap.size, j, none⟩ = (#[.int .i64 0, .int .i64 0, .string ⟨#[]⟩, .pointer none] : Array Value)[j]? := fun j => (hW.at_ j hl h.rl).trans (by rw [<- hwb]; exact za _ _ _ j)
   have f : ∀ j, W.frozen? ⟨w.heap.size, j, none⟩ = false := fun j => (hW.fzn j hl h.rl).trans (by rw [<- hwb]; exact ze _ _ _ _)
   exact ⟨⟨a 0, a 1, a 2, a 3⟩, f 0, f 1, f 2, f 3⟩)
  have hlt : w.heap.size < wb.heap.size := by rw [<- hwb]; simp
  have HWB := Lib.hid hwb
  have HB := Lib.hid hb
  have HH := Lib.hid h
  have hRb : R < wb.heap.size := Nat.lt_of_lt_of_le h.rl hb.size
  unfold PvSays sNull
  clear h hwb hb hcl hbl
  go_enter Tryz.func104, Tryz.ntmps104
  go_upto_region 1 with fail
  rw [HWB.out]
  go_wp2_with fail
  refine (asBool_any false _).mono ?_
  rintro e w3 ⟨rfl, hb3⟩
  rw [show (boolW false).agg = .agg #[.int .i64 2, .int .i64 (if false then 1 else 0), .string ⟨#[]⟩] from rfl]
  obtain ⟨z, hz⟩ : ∃ z : Int, (if false = true then (1 : Int) else 0) = z := ⟨_, rfl⟩
  rw [hz]
  have HZ := Lib.hid hz
  have r3 := Lib.hid (Rnr.trans (Rnr.refl R wb) (Rnr.new hb3 (Nat.lt_of_lt_of_le hRb ((Rnr.refl R wb)).size)))
  clear hb3 hz
  go_wp2_with fail
  refine (asVal_any 2 z ⟨#[]⟩ _).mono ?_
  rintro e w4 ⟨rfl, hb4⟩
  have r4 := Lib.hid (r3.out.trans (Rnr.new hb4 (Nat.lt_of_lt_of_le hRb r3.out.size)))
  clear hb4
  obtain ⟨⟨u0, u1, u2, u3⟩, f0, f1, f2, f3⟩ := KU.out w4 r4.out
  have S := Lib.hid (set4_any (a0 := .int .i64 2) (a1 := .int .i64 z) (a2 := .string ⟨#[]⟩) (a3 := .pointer none) rfl u0 u1 u2 u3)
  have HE := Lib.hid (pv_end (x := ⟨2, z, ⟨#[]⟩, none⟩) (y := ⟨0, 0, ⟨#[]⟩, none⟩) HH.out.rl rfl HWB.out r4.out rfl (MV.row u0 u1 u2 u3))
  go_wp2_with fail
  obtain ⟨⟨s0, s1, s2, s3⟩, hg⟩ := S.out
  refine bodyPost_ret (v := .tuple #[.agg #[.int .i64 2, .int .i64 z, .string ⟨#[]⟩, .pointer none], .int .i64 0]) (by simp [results, Tryz.results104, go_sem, s0, s1, s2, s3]) rfl ?_
  exact ⟨HE.out.1, _, _, _, _, rfl, by rw [<- HZ.out]; exact vl_bool _ _ _ false⟩
 | pair t p2 x y a2 b2 t1 t2 t3 p1 p22 p3 hc hk hr hx hy ha hb2 =>
  obtain ⟨a0, a1, a2, a3⟩ := MV.at_ h.row
  simp only at a0 a1 a2 a3
  have hcl := h.cl2
  have hcl2 : cl <= 9223372036854775807 := by unfold maxLen at hcl; omega
  have hcl0 : (0 : Int) < (cl : Int) := by have := h.cl1; omega
  obtain ⟨wb, hwb⟩ : ∃ wb, w.alloc (.cells #[.int .i64 0, .int .i64 0, .string ⟨#[]⟩, .pointer none] 98) = wb := ⟨_, rfl⟩
  have hb : Below w.heap.size w wb := by rw [<- hwb]; exact (Below.refl _ _).alloc (Nat.le_refl _) _
  have hbl := h.bl
  have a0 := (hb.cell (p := ⟨b, o, none⟩) hbl).trans a0
  have a1 := (hb.cell (p := ⟨b, o + 1, none⟩) hbl).trans a1
  have a2 := (hb.cell (p := ⟨b, o + 2, none⟩) hbl).trans a2
  have a3 := (hb.cell (p := ⟨b, o + 3, none⟩) hbl).trans a3
  have KU := Lib.hid (show ∀ W, Rnr R wb W -> (W.cell? ⟨w.heap.size, 0, none⟩ = some (.int .i64 0) /\ W.cell? ⟨w.heap.size, 1, none⟩ = some (.int .i64 0) /\ W.cell? ⟨w.heap.size, 2, none⟩ = some (.string ⟨#[]⟩) /\ W.cell? ⟨w.heap.size, 3, none⟩ = some (.pointer none)) /\ (W.frozen? ⟨w.heap.size, 0, none⟩ = false /\ W.frozen? ⟨w.heap.size, 1, none⟩ = false /\ W.frozen? ⟨w.heap.size, 2, none⟩ = false /\ W.frozen? ⟨w.heap.size, 3, none⟩ = false) from fun W hW => by
   have hl : w.heap.size < wb.heap.size := by rw [<- hwb]; simp
   have a : ∀ j, W.cell? ⟨w.heap.size, j, none⟩ = (#[.int .i64 0, .int .i64 0, .string ⟨#[]⟩, .pointer none] : Array Value)[j]? := fun j => (hW.at_ j hl h.rl).trans (by rw [<- hwb]; exact za _ _ _ j)
   have f : ∀ j, W.frozen? ⟨w.heap.size, j, none⟩ = false := fun j => (hW.fzn j hl h.rl).trans (by rw [<- hwb]; exact ze _ _ _ _)
   exact ⟨⟨a 0, a 1, a 2, a 3⟩, f 0, f 1, f 2, f 3⟩)
  have hlt : w.heap.size < wb.heap.size := by rw [<- hwb]; simp
  have HWB := Lib.hid hwb
  have HB := Lib.hid hb
  have HH := Lib.hid h
  have hRb : R < wb.heap.size := Nat.lt_of_lt_of_le h.rl hb.size
  unfold PvSays sNull
  clear h hwb hb hcl hbl
  clear hc hk hr hx hy ha hb2
  go_enter Tryz.func104, Tryz.ntmps104
  go_upto_region 1 with fail
  rw [HWB.out]
  go_wp2_with fail
  refine (asBool_any false _).mono ?_
  rintro e w3 ⟨rfl, hb3⟩
  rw [show (boolW false).agg = .agg #[.int .i64 2, .int .i64 (if false then 1 else 0), .string ⟨#[]⟩] from rfl]
  obtain ⟨z, hz⟩ : ∃ z : Int, (if false = true then (1 : Int) else 0) = z := ⟨_, rfl⟩
  rw [hz]
  have HZ := Lib.hid hz
  have r3 := Lib.hid (Rnr.trans (Rnr.refl R wb) (Rnr.new hb3 (Nat.lt_of_lt_of_le hRb ((Rnr.refl R wb)).size)))
  clear hb3 hz
  go_wp2_with fail
  refine (asVal_any 2 z ⟨#[]⟩ _).mono ?_
  rintro e w4 ⟨rfl, hb4⟩
  have r4 := Lib.hid (r3.out.trans (Rnr.new hb4 (Nat.lt_of_lt_of_le hRb r3.out.size)))
  clear hb4
  obtain ⟨⟨u0, u1, u2, u3⟩, f0, f1, f2, f3⟩ := KU.out w4 r4.out
  have S := Lib.hid (set4_any (a0 := .int .i64 2) (a1 := .int .i64 z) (a2 := .string ⟨#[]⟩) (a3 := .pointer none) rfl u0 u1 u2 u3)
  have HE := Lib.hid (pv_end (x := ⟨2, z, ⟨#[]⟩, none⟩) (y := ⟨0, 0, ⟨#[]⟩, none⟩) HH.out.rl rfl HWB.out r4.out rfl (MV.row u0 u1 u2 u3))
  go_wp2_with fail
  obtain ⟨⟨s0, s1, s2, s3⟩, hg⟩ := S.out
  refine bodyPost_ret (v := .tuple #[.agg #[.int .i64 2, .int .i64 z, .string ⟨#[]⟩, .pointer none], .int .i64 0]) (by simp [results, Tryz.results104, go_sem, s0, s1, s2, s3]) rfl ?_
  exact ⟨HE.out.1, _, _, _, _, rfl, by rw [<- HZ.out]; exact vl_bool _ _ _ false⟩
set_option maxHeartbeats 4000000 in
theorem pv_pair {w : World} {R lo b o cl : Nat} {k n : Int} {s : ByteArray} {p : Option Addr} {v : Vl} (h : PA1 w R lo b o cl ⟨k, n, s, p⟩ v) : PvSays w R lo sPair 1 b o cl (.ok (bV (isP v))) := by
 obtain ⟨a0, a1, a2, a3⟩ := MV.at_ h.row
 simp only at a0 a1 a2 a3
 have hcl := h.cl2
 have hcl2 : cl <= 9223372036854775807 := by unfold maxLen at hcl; omega
 have hcl0 : (0 : Int) < (cl : Int) := by have := h.cl1; omega
 obtain ⟨wb, hwb⟩ : ∃ wb, w.alloc (.cells #[.int .i64 0, .int .i64 0, .string ⟨#[]⟩, .pointer none] 98) = wb := ⟨_, rfl⟩
 have hb : Below w.heap.size w wb := by rw [<- hwb]; exact (Below.refl _ _).alloc (Nat.le_refl _) _
 have hbl := h.bl
 have a0 := (hb.cell (p := ⟨b, o, none⟩) hbl).trans a0
 have a1 := (hb.cell (p := ⟨b, o + 1, none⟩) hbl).trans a1
 have a2 := (hb.cell (p := ⟨b, o + 2, none⟩) hbl).trans a2
 have a3 := (hb.cell (p := ⟨b, o + 3, none⟩) hbl).trans a3
 have KU := Lib.hid (show ∀ W, Rnr R wb W -> (W.cell? ⟨w.heap.size, 0, none⟩ = some (.int .i64 0) /\ W.cell? ⟨w.heap.size, 1, none⟩ = some (.int .i64 0) /\ W.cell? ⟨w.heap.size, 2, none⟩ = some (.string ⟨#[]⟩) /\ W.cell? ⟨w.heap.size, 3, none⟩ = some (.pointer none)) /\ (W.frozen? ⟨w.heap.size, 0, none⟩ = false /\ W.frozen? ⟨w.heap.size, 1, none⟩ = false /\ W.frozen? ⟨w.heap.size, 2, none⟩ = false /\ W.frozen? ⟨w.heap.size, 3, none⟩ = false) from fun W hW => by
  have hl : w.heap.size < wb.heap.size := by rw [<- hwb]; simp
  have a : ∀ j, W.cell? ⟨w.heap.size, j, none⟩ = (#[.int .i64 0, .int .i64 0, .string ⟨#[]⟩, .pointer none] : Array Value)[j]? := fun j => (hW.at_ j hl h.rl).trans (by rw [<- hwb]; exact za _ _ _ j)
  have f : ∀ j, W.frozen? ⟨w.heap.size, j, none⟩ = false := fun j => (hW.fzn j hl h.rl).trans (by rw [<- hwb]; exact ze _ _ _ _)
  exact ⟨⟨a 0, a 1, a 2, a 3⟩, f 0, f 1, f 2, f 3⟩)
 have hlt : w.heap.size < wb.heap.size := by rw [<- hwb]; simp
 have HWB := Lib.hid hwb
 have HB := Lib.hid hb
 have HH := Lib.hid h
 have hRb : R < wb.heap.size := Nat.lt_of_lt_of_le h.rl hb.size
 have KC := Lib.hid (isA_any (h.vl.new hb hb.size))
 obtain ⟨bb, hbb⟩ : ∃ bb, isP v = bb := ⟨_, rfl⟩
 rw [hbb] at KC ⊢
 unfold PvSays sPair
 clear h hwb hb hcl hbl
 go_enter Tryz.func104, Tryz.ntmps104
 go_upto_region 1 with fail
 rw [HWB.out]
 go_wp2_with fail
 refine KC.out.mono ?_
 rintro e w2 ⟨rfl, hb2⟩
 have r2 := Lib.hid (Rnr.new (R := R) hb2 hRb)
 clear hb2 hbb
 go_wp2_with fail
 refine (asBool_any bb _).mono ?_
 rintro e w3 ⟨rfl, hb3⟩
 rw [show (boolW bb).agg = .agg #[.int .i64 2, .int .i64 (if bb then 1 else 0), .string ⟨#[]⟩] from rfl]
 obtain ⟨z, hz⟩ : ∃ z : Int, (if bb = true then (1 : Int) else 0) = z := ⟨_, rfl⟩
 rw [hz]
 have HZ := Lib.hid hz
 have r3 := Lib.hid (Rnr.trans r2.out (Rnr.new hb3 (Nat.lt_of_lt_of_le hRb (r2.out).size)))
 clear hb3 hz
 go_wp2_with fail
 refine (asVal_any 2 z ⟨#[]⟩ _).mono ?_
 rintro e w4 ⟨rfl, hb4⟩
 have r4 := Lib.hid (r3.out.trans (Rnr.new hb4 (Nat.lt_of_lt_of_le hRb r3.out.size)))
 clear hb4
 obtain ⟨⟨u0, u1, u2, u3⟩, f0, f1, f2, f3⟩ := KU.out w4 r4.out
 have S := Lib.hid (set4_any (a0 := .int .i64 2) (a1 := .int .i64 z) (a2 := .string ⟨#[]⟩) (a3 := .pointer none) rfl u0 u1 u2 u3)
 have HE := Lib.hid (pv_end (x := ⟨2, z, ⟨#[]⟩, none⟩) (y := ⟨0, 0, ⟨#[]⟩, none⟩) HH.out.rl rfl HWB.out r4.out rfl (MV.row u0 u1 u2 u3))
 go_wp2_with fail
 obtain ⟨⟨s0, s1, s2, s3⟩, hg⟩ := S.out
 refine bodyPost_ret (v := .tuple #[.agg #[.int .i64 2, .int .i64 z, .string ⟨#[]⟩, .pointer none], .int .i64 0]) (by simp [results, Tryz.results104, go_sem, s0, s1, s2, s3]) rfl ?_
 exact ⟨HE.out.1, _, _, _, _, rfl, by rw [<- HZ.out]; exact vl_bool _ _ _ bb⟩
set_option maxHeartbeats 4000000 in
theorem pv_not {w : World} {R lo b o cl : Nat} {k n : Int} {s : ByteArray} {p : Option Addr} {v : Vl} (h : PA1 w R lo b o cl ⟨k, n, s, p⟩ v) : PvSays w R lo sNot 1 b o cl (.ok (bV (isF v))) := by
 obtain ⟨a0, a1, a2, a3⟩ := MV.at_ h.row
 simp only at a0 a1 a2 a3
 have hcl := h.cl2
 have hcl2 : cl <= 9223372036854775807 := by unfold maxLen at hcl; omega
 have hcl0 : (0 : Int) < (cl : Int) := by have := h.cl1; omega
 obtain ⟨wb, hwb⟩ : ∃ wb, w.alloc (.cells #[.int .i64 0, .int .i64 0, .string ⟨#[]⟩, .pointer none] 98) = wb := ⟨_, rfl⟩
 have hb : Below w.heap.size w wb := by rw [<- hwb]; exact (Below.refl _ _).alloc (Nat.le_refl _) _
 have hbl := h.bl
 have a0 := (hb.cell (p := ⟨b, o, none⟩) hbl).trans a0
 have a1 := (hb.cell (p := ⟨b, o + 1, none⟩) hbl).trans a1
 have a2 := (hb.cell (p := ⟨b, o + 2, none⟩) hbl).trans a2
 have a3 := (hb.cell (p := ⟨b, o + 3, none⟩) hbl).trans a3
 have KU := Lib.hid (show ∀ W, Rnr R wb W -> (W.cell? ⟨w.heap.size, 0, none⟩ = some (.int .i64 0) /\ W.cell? ⟨w.heap.size, 1, none⟩ = some (.int .i64 0) /\ W.cell? ⟨w.heap.size, 2, none⟩ = some (.string ⟨#[]⟩) /\ W.cell? ⟨w.heap.size, 3, none⟩ = some (.pointer none)) /\ (W.frozen? ⟨w.heap.size, 0, none⟩ = false /\ W.frozen? ⟨w.heap.size, 1, none⟩ = false /\ W.frozen? ⟨w.heap.size, 2, none⟩ = false /\ W.frozen? ⟨w.heap.size, 3, none⟩ = false) from fun W hW => by
  have hl : w.heap.size < wb.heap.size := by rw [<- hwb]; simp
  have a : ∀ j, W.cell? ⟨w.heap.size, j, none⟩ = (#[.int .i64 0, .int .i64 0, .string ⟨#[]⟩, .pointer none] : Array Value)[j]? := fun j => (hW.at_ j hl h.rl).trans (by rw [<- hwb]; exact za _ _ _ j)
  have f : ∀ j, W.frozen? ⟨w.heap.size, j, none⟩ = false := fun j => (hW.fzn j hl h.rl).trans (by rw [<- hwb]; exact ze _ _ _ _)
  exact ⟨⟨a 0, a 1, a 2, a 3⟩, f 0, f 1, f 2, f 3⟩)
 have hlt : w.heap.size < wb.heap.size := by rw [<- hwb]; simp
 have HWB := Lib.hid hwb
 have HB := Lib.hid hb
 have HH := Lib.hid h
 have hRb : R < wb.heap.size := Nat.lt_of_lt_of_le h.rl hb.size
 have KC := Lib.hid (isFalse_any (h.vl.new hb hb.size))
 obtain ⟨bb, hbb⟩ : ∃ bb, isF v = bb := ⟨_, rfl⟩
 rw [hbb] at KC ⊢
 unfold PvSays sNot
 clear h hwb hb hcl hbl
 go_enter Tryz.func104, Tryz.ntmps104
 go_upto_region 1 with fail
 rw [HWB.out]
 go_wp2_with fail
 refine KC.out.mono ?_
 rintro e w2 ⟨rfl, hb2⟩
 have r2 := Lib.hid (Rnr.new (R := R) hb2 hRb)
 clear hb2 hbb
 go_wp2_with fail
 refine (asBool_any bb _).mono ?_
 rintro e w3 ⟨rfl, hb3⟩
 rw [show (boolW bb).agg = .agg #[.int .i64 2, .int .i64 (if bb then 1 else 0), .string ⟨#[]⟩] from rfl]
 obtain ⟨z, hz⟩ : ∃ z : Int, (if bb = true then (1 : Int) else 0) = z := ⟨_, rfl⟩
 rw [hz]
 have HZ := Lib.hid hz
 have r3 := Lib.hid (Rnr.trans r2.out (Rnr.new hb3 (Nat.lt_of_lt_of_le hRb (r2.out).size)))
 clear hb3 hz
 go_wp2_with fail
 refine (asVal_any 2 z ⟨#[]⟩ _).mono ?_
 rintro e w4 ⟨rfl, hb4⟩
 have r4 := Lib.hid (r3.out.trans (Rnr.new hb4 (Nat.lt_of_lt_of_le hRb r3.out.size)))
 clear hb4
 obtain ⟨⟨u0, u1, u2, u3⟩, f0, f1, f2, f3⟩ := KU.out w4 r4.out
 have S := Lib.hid (set4_any (a0 := .int .i64 2) (a1 := .int .i64 z) (a2 := .string ⟨#[]⟩) (a3 := .pointer none) rfl u0 u1 u2 u3)
 have HE := Lib.hid (pv_end (x := ⟨2, z, ⟨#[]⟩, none⟩) (y := ⟨0, 0, ⟨#[]⟩, none⟩) HH.out.rl rfl HWB.out r4.out rfl (MV.row u0 u1 u2 u3))
 go_wp2_with fail
 obtain ⟨⟨s0, s1, s2, s3⟩, hg⟩ := S.out
 refine bodyPost_ret (v := .tuple #[.agg #[.int .i64 2, .int .i64 z, .string ⟨#[]⟩, .pointer none], .int .i64 0]) (by simp [results, Tryz.results104, go_sem, s0, s1, s2, s3]) rfl ?_
 exact ⟨HE.out.1, _, _, _, _, rfl, by rw [<- HZ.out]; exact vl_bool _ _ _ bb⟩
set_option maxHeartbeats 4000000 in
theorem pv_carN {w : World} {R lo b o cl : Nat} {k n : Int} {s : ByteArray} {p : Option Addr} {v : Vl} (h : PA1 w R lo b o cl ⟨k, n, s, p⟩ v) (hn : isP v = false) : PvSays w R lo sCar 1 b o cl (.error 3) := by
 obtain ⟨a0, a1, a2, a3⟩ := MV.at_ h.row
 simp only at a0 a1 a2 a3
 have hcl := h.cl2
 have hcl2 : cl <= 9223372036854775807 := by unfold maxLen at hcl; omega
 have hcl0 : (0 : Int) < (cl : Int) := by have := h.cl1; omega
 obtain ⟨wb, hwb⟩ : ∃ wb, w.alloc (.cells #[.int .i64 0, .int .i64 0, .string ⟨#[]⟩, .pointer none] 98) = wb := ⟨_, rfl⟩
 have hb : Below w.heap.size w wb := by rw [<- hwb]; exact (Below.refl _ _).alloc (Nat.le_refl _) _
 have hbl := h.bl
 have a0 := (hb.cell (p := ⟨b, o, none⟩) hbl).trans a0
 have a1 := (hb.cell (p := ⟨b, o + 1, none⟩) hbl).trans a1
 have a2 := (hb.cell (p := ⟨b, o + 2, none⟩) hbl).trans a2
 have a3 := (hb.cell (p := ⟨b, o + 3, none⟩) hbl).trans a3
 have KU := Lib.hid (show ∀ W, Rnr R wb W -> (W.cell? ⟨w.heap.size, 0, none⟩ = some (.int .i64 0) /\ W.cell? ⟨w.heap.size, 1, none⟩ = some (.int .i64 0) /\ W.cell? ⟨w.heap.size, 2, none⟩ = some (.string ⟨#[]⟩) /\ W.cell? ⟨w.heap.size, 3, none⟩ = some (.pointer none)) /\ (W.frozen? ⟨w.heap.size, 0, none⟩ = false /\ W.frozen? ⟨w.heap.size, 1, none⟩ = false /\ W.frozen? ⟨w.heap.size, 2, none⟩ = false /\ W.frozen? ⟨w.heap.size, 3, none⟩ = false) from fun W hW => by
  have hl : w.heap.size < wb.heap.size := by rw [<- hwb]; simp
  have a : ∀ j, W.cell? ⟨w.heap.size, j, none⟩ = (#[.int .i64 0, .int .i64 0, .string ⟨#[]⟩, .pointer none] : Array Value)[j]? := fun j => (hW.at_ j hl h.rl).trans (by rw [<- hwb]; exact za _ _ _ j)
  have f : ∀ j, W.frozen? ⟨w.heap.size, j, none⟩ = false := fun j => (hW.fzn j hl h.rl).trans (by rw [<- hwb]; exact ze _ _ _ _)
  exact ⟨⟨a 0, a 1, a 2, a 3⟩, f 0, f 1, f 2, f 3⟩)
 have hlt : w.heap.size < wb.heap.size := by rw [<- hwb]; simp
 have HWB := Lib.hid hwb
 have HB := Lib.hid hb
 have HH := Lib.hid h
 have hRb : R < wb.heap.size := Nat.lt_of_lt_of_le h.rl hb.size
 have KC := Lib.hid (isA_any (h.vl.new hb hb.size))
 rw [hn] at KC
 unfold PvSays sCar
 clear h hwb hb hcl hbl
 go_enter Tryz.func104, Tryz.ntmps104
 go_upto_region 1 with fail
 rw [HWB.out]
 go_wp2_with fail
 refine KC.out.mono ?_
 rintro e w2 ⟨rfl, hb2⟩
 have r2 := Lib.hid (Rnr.new (R := R) hb2 hRb)
 clear hb2 hn
 obtain ⟨⟨u0, u1, u2, u3⟩, f0, f1, f2, f3⟩ := KU.out w2 r2.out
 have S := Lib.hid (set4_any (a0 := .int .i64 0) (a1 := .int .i64 0) (a2 := .string ⟨#[]⟩) (a3 := .pointer none) rfl u0 u1 u2 u3)
 have HE := Lib.hid (pv_end (x := ⟨0, 0, ⟨#[]⟩, none⟩) (y := ⟨0, 0, ⟨#[]⟩, none⟩) HH.out.rl rfl HWB.out r2.out rfl (MV.row u0 u1 u2 u3))
 go_wp2_with fail
 obtain ⟨⟨s0, s1, s2, s3⟩, hg⟩ := S.out
 refine bodyPost_ret (v := .tuple #[.agg #[.int .i64 0, .int .i64 0, .string ⟨#[]⟩, .pointer none], .int .i64 3]) (by simp [results, Tryz.results104, go_sem, s0, s1, s2, s3]) rfl ?_
 exact ⟨HE.out.1, _, _, _, _, rfl⟩
set_option maxHeartbeats 4000000 in
theorem pv_carP {w : World} {R lo b o cl : Nat} {k n : Int} {s : ByteArray} {p : Option Addr} {va vb : Vl} (h : PA1 w R lo b o cl ⟨k, n, s, p⟩ (.pair va vb)) : PvSays w R lo sCar 1 b o cl (.ok va) := by
 have KC := Lib.hid (fun (W : World) (hW : Below w.heap.size w W) => isA_any (h.vl.new hW hW.size))
 cases h.vl with
 | pair t q x y _ _ t1 t2 t3 q1 q2 q3 hc hk hr hx hy ha hb2 =>
 obtain ⟨xk, xn, xs, xp⟩ := x
 obtain ⟨d0, d1, d2, d3⟩ := MV.at_ hx
 simp only [Nat.zero_add] at d0 d1 d2 d3
 have HV := Lib.hid ha
 obtain ⟨a0, a1, a2, a3⟩ := MV.at_ h.row
 simp only at a0 a1 a2 a3
 have hcl := h.cl2
 have hcl2 : cl <= 9223372036854775807 := by unfold maxLen at hcl; omega
 have hcl0 : (0 : Int) < (cl : Int) := by have := h.cl1; omega
 obtain ⟨wb, hwb⟩ : ∃ wb, w.alloc (.cells #[.int .i64 0, .int .i64 0, .string ⟨#[]⟩, .pointer none] 98) = wb := ⟨_, rfl⟩
 have hb : Below w.heap.size w wb := by rw [<- hwb]; exact (Below.refl _ _).alloc (Nat.le_refl _) _
 have hbl := h.bl
 have a0 := (hb.cell (p := ⟨b, o, none⟩) hbl).trans a0
 have a1 := (hb.cell (p := ⟨b, o + 1, none⟩) hbl).trans a1
 have a2 := (hb.cell (p := ⟨b, o + 2, none⟩) hbl).trans a2
 have a3 := (hb.cell (p := ⟨b, o + 3, none⟩) hbl).trans a3
 have KU := Lib.hid (show ∀ W, Rnr R wb W -> (W.cell? ⟨w.heap.size, 0, none⟩ = some (.int .i64 0) /\ W.cell? ⟨w.heap.size, 1, none⟩ = some (.int .i64 0) /\ W.cell? ⟨w.heap.size, 2, none⟩ = some (.string ⟨#[]⟩) /\ W.cell? ⟨w.heap.size, 3, none⟩ = some (.pointer none)) /\ (W.frozen? ⟨w.heap.size, 0, none⟩ = false /\ W.frozen? ⟨w.heap.size, 1, none⟩ = false /\ W.frozen? ⟨w.heap.size, 2, none⟩ = false /\ W.frozen? ⟨w.heap.size, 3, none⟩ = false) from fun W hW => by
  have hl : w.heap.size < wb.heap.size := by rw [<- hwb]; simp
  have a : ∀ j, W.cell? ⟨w.heap.size, j, none⟩ = (#[.int .i64 0, .int .i64 0, .string ⟨#[]⟩, .pointer none] : Array Value)[j]? := fun j => (hW.at_ j hl h.rl).trans (by rw [<- hwb]; exact za _ _ _ j)
  have f : ∀ j, W.frozen? ⟨w.heap.size, j, none⟩ = false := fun j => (hW.fzn j hl h.rl).trans (by rw [<- hwb]; exact ze _ _ _ _)
  exact ⟨⟨a 0, a 1, a 2, a 3⟩, f 0, f 1, f 2, f 3⟩)
 have hlt : w.heap.size < wb.heap.size := by rw [<- hwb]; simp
 have HWB := Lib.hid hwb
 have HB := Lib.hid hb
 have HH := Lib.hid h
 have hRb : R < wb.heap.size := Nat.lt_of_lt_of_le h.rl hb.size
 have hr := (hb.cell (p := ⟨t, 2, none⟩) t3).trans hr
 have d0 := (hb.cell (p := ⟨q, 0, none⟩) q3).trans d0
 have d1 := (hb.cell (p := ⟨q, 1, none⟩) q3).trans d1
 have d2 := (hb.cell (p := ⟨q, 2, none⟩) q3).trans d2
 have d3 := (hb.cell (p := ⟨q, 3, none⟩) q3).trans d3
 have t3b : t < wb.heap.size := Nat.lt_of_lt_of_le t3 hb.size
 have q3b : q < wb.heap.size := Nat.lt_of_lt_of_le q3 hb.size
 unfold PvSays sCar
 clear h hwb hb hcl hbl
 clear hc hk hx hy ha hb2
 go_enter Tryz.func104, Tryz.ntmps104
 go_upto_region 1 with fail
 rw [HWB.out]
 go_wp2_with fail
 refine (KC.out wb HB.out).mono ?_
 rw [show isP (.pair va vb) = true from rfl]
 rintro e w2 ⟨rfl, hb2⟩
 have a3 := (hb2.cell (p := ⟨b, o + 3, none⟩) (Nat.lt_of_lt_of_le HH.out.bl HB.out.size)).trans a3
 have hr := (hb2.cell (p := ⟨t, 2, none⟩) t3b).trans hr
 have d0 := (hb2.cell (p := ⟨q, 0, none⟩) q3b).trans d0
 have d1 := (hb2.cell (p := ⟨q, 1, none⟩) q3b).trans d1
 have d2 := (hb2.cell (p := ⟨q, 2, none⟩) q3b).trans d2
 have d3 := (hb2.cell (p := ⟨q, 3, none⟩) q3b).trans d3
 have r2 := Lib.hid (Rnr.new (R := R) hb2 hRb)
 clear hb2
 obtain ⟨⟨u0, u1, u2, u3⟩, f0, f1, f2, f3⟩ := KU.out w2 r2.out
 have S := Lib.hid (set4_any (a0 := .int .i64 xk) (a1 := .int .i64 xn) (a2 := .string xs) (a3 := .pointer xp) rfl u0 u1 u2 u3)
 have HE := Lib.hid (pv_end (x := ⟨xk, xn, xs, xp⟩) (y := ⟨0, 0, ⟨#[]⟩, none⟩) HH.out.rl rfl HWB.out r2.out rfl (MV.row u0 u1 u2 u3))
 go_wp2_with fail
 obtain ⟨⟨s0, s1, s2, s3⟩, hg⟩ := S.out
 refine bodyPost_ret (v := .tuple #[.agg #[.int .i64 xk, .int .i64 xn, .string xs, .pointer xp], .int .i64 0]) (by simp [results, Tryz.results104, go_sem, s0, s1, s2, s3]) rfl ?_
 exact ⟨HE.out.1, _, _, _, _, rfl, HV.out.keep (fun b h1 h2 h3 => HE.out.2 b h3 (by have := HH.out.rlo; omega)) HE.out.1.size (Nat.le_refl _) HE.out.1.size⟩
set_option maxHeartbeats 4000000 in
theorem pv_cdrN {w : World} {R lo b o cl : Nat} {k n : Int} {s : ByteArray} {p : Option Addr} {v : Vl} (h : PA1 w R lo b o cl ⟨k, n, s, p⟩ v) (hn : isP v = false) : PvSays w R lo sCdr 1 b o cl (.error 3) := by
 obtain ⟨a0, a1, a2, a3⟩ := MV.at_ h.row
 simp only at a0 a1 a2 a3
 have hcl := h.cl2
 have hcl2 : cl <= 9223372036854775807 := by unfold maxLen at hcl; omega
 have hcl0 : (0 : Int) < (cl : Int) := by have := h.cl1; omega
 obtain ⟨wb, hwb⟩ : ∃ wb, w.alloc (.cells #[.int .i64 0, .int .i64 0, .string ⟨#[]⟩, .pointer none] 98) = wb := ⟨_, rfl⟩
 have hb : Below w.heap.size w wb := by rw [<- hwb]; exact (Below.refl _ _).alloc (Nat.le_refl _) _
 have hbl := h.bl
 have a0 := (hb.cell (p := ⟨b, o, none⟩) hbl).trans a0
 have a1 := (hb.cell (p := ⟨b, o + 1, none⟩) hbl).trans a1
 have a2 := (hb.cell (p := ⟨b, o + 2, none⟩) hbl).trans a2
 have a3 := (hb.cell (p := ⟨b, o + 3, none⟩) hbl).trans a3
 have KU := Lib.hid (show ∀ W, Rnr R wb W -> (W.cell? ⟨w.heap.size, 0, none⟩ = some (.int .i64 0) /\ W.cell? ⟨w.heap.size, 1, none⟩ = some (.int .i64 0) /\ W.cell? ⟨w.heap.size, 2, none⟩ = some (.string ⟨#[]⟩) /\ W.cell? ⟨w.heap.size, 3, none⟩ = some (.pointer none)) /\ (W.frozen? ⟨w.heap.size, 0, none⟩ = false /\ W.frozen? ⟨w.heap.size, 1, none⟩ = false /\ W.frozen? ⟨w.heap.size, 2, none⟩ = false /\ W.frozen? ⟨w.heap.size, 3, none⟩ = false) from fun W hW => by
  have hl : w.heap.size < wb.heap.size := by rw [<- hwb]; simp
  have a : ∀ j, W.cell? ⟨w.heap.size, j, none⟩ = (#[.int .i64 0, .int .i64 0, .string ⟨#[]⟩, .pointer none] : Array Value)[j]? := fun j => (hW.at_ j hl h.rl).trans (by rw [<- hwb]; exact za _ _ _ j)
  have f : ∀ j, W.frozen? ⟨w.heap.size, j, none⟩ = false := fun j => (hW.fzn j hl h.rl).trans (by rw [<- hwb]; exact ze _ _ _ _)
  exact ⟨⟨a 0, a 1, a 2, a 3⟩, f 0, f 1, f 2, f 3⟩)
 have hlt : w.heap.size < wb.heap.size := by rw [<- hwb]; simp
 have HWB := Lib.hid hwb
 have HB := Lib.hid hb
 have HH := Lib.hid h
 have hRb : R < wb.heap.size := Nat.lt_of_lt_of_le h.rl hb.size
 have KC := Lib.hid (isA_any (h.vl.new hb hb.size))
 rw [hn] at KC
 unfold PvSays sCdr
 clear h hwb hb hcl hbl
 go_enter Tryz.func104, Tryz.ntmps104
 go_upto_region 1 with fail
 rw [HWB.out]
 go_wp2_with fail
 refine KC.out.mono ?_
 rintro e w2 ⟨rfl, hb2⟩
 have r2 := Lib.hid (Rnr.new (R := R) hb2 hRb)
 clear hb2 hn
 obtain ⟨⟨u0, u1, u2, u3⟩, f0, f1, f2, f3⟩ := KU.out w2 r2.out
 have S := Lib.hid (set4_any (a0 := .int .i64 0) (a1 := .int .i64 0) (a2 := .string ⟨#[]⟩) (a3 := .pointer none) rfl u0 u1 u2 u3)
 have HE := Lib.hid (pv_end (x := ⟨0, 0, ⟨#[]⟩, none⟩) (y := ⟨0, 0, ⟨#[]⟩, none⟩) HH.out.rl rfl HWB.out r2.out rfl (MV.row u0 u1 u2 u3))
 go_wp2_with fail
 obtain ⟨⟨s0, s1, s2, s3⟩, hg⟩ := S.out
 refine bodyPost_ret (v := .tuple #[.agg #[.int .i64 0, .int .i64 0, .string ⟨#[]⟩, .pointer none], .int .i64 3]) (by simp [results, Tryz.results104, go_sem, s0, s1, s2, s3]) rfl ?_
 exact ⟨HE.out.1, _, _, _, _, rfl⟩
set_option maxHeartbeats 4000000 in
theorem pv_cdrP {w : World} {R lo b o cl : Nat} {k n : Int} {s : ByteArray} {p : Option Addr} {va vb : Vl} (h : PA1 w R lo b o cl ⟨k, n, s, p⟩ (.pair va vb)) : PvSays w R lo sCdr 1 b o cl (.ok vb) := by
 have KC := Lib.hid (fun (W : World) (hW : Below w.heap.size w W) => isA_any (h.vl.new hW hW.size))
 cases h.vl with
 | pair t q x y _ _ t1 t2 t3 q1 q2 q3 hc hk hr hx hy ha hb2 =>
 obtain ⟨xk, xn, xs, xp⟩ := y
 obtain ⟨d0, d1, d2, d3⟩ := MV.at_ hy
 simp only [Nat.reduceAdd] at d0 d1 d2 d3
 have HV := Lib.hid hb2
 obtain ⟨a0, a1, a2, a3⟩ := MV.at_ h.row
 simp only at a0 a1 a2 a3
 have hcl := h.cl2
 have hcl2 : cl <= 9223372036854775807 := by unfold maxLen at hcl; omega
 have hcl0 : (0 : Int) < (cl : Int) := by have := h.cl1; omega
 obtain ⟨wb, hwb⟩ : ∃ wb, w.alloc (.cells #[.int .i64 0, .int .i64 0, .string ⟨#[]⟩, .pointer none] 98) = wb := ⟨_, rfl⟩
 have hb : Below w.heap.size w wb := by rw [<- hwb]; exact (Below.refl _ _).alloc (Nat.le_refl _) _
 have hbl := h.bl
 have a0 := (hb.cell (p := ⟨b, o, none⟩) hbl).trans a0
 have a1 := (hb.cell (p := ⟨b, o + 1, none⟩) hbl).trans a1
 have a2 := (hb.cell (p := ⟨b, o + 2, none⟩) hbl).trans a2
 have a3 := (hb.cell (p := ⟨b, o + 3, none⟩) hbl).trans a3
 have KU := Lib.hid (show ∀ W, Rnr R wb W -> (W.cell? ⟨w.heap.size, 0, none⟩ = some (.int .i64 0) /\ W.cell? ⟨w.heap.size, 1, none⟩ = some (.int .i64 0) /\ W.cell? ⟨w.heap.size, 2, none⟩ = some (.string ⟨#[]⟩) /\ W.cell? ⟨w.heap.size, 3, none⟩ = some (.pointer none)) /\ (W.frozen? ⟨w.heap.size, 0, none⟩ = false /\ W.frozen? ⟨w.heap.size, 1, none⟩ = false /\ W.frozen? ⟨w.heap.size, 2, none⟩ = false /\ W.frozen? ⟨w.heap.size, 3, none⟩ = false) from fun W hW => by
  have hl : w.heap.size < wb.heap.size := by rw [<- hwb]; simp
  have a : ∀ j, W.cell? ⟨w.heap.size, j, none⟩ = (#[.int .i64 0, .int .i64 0, .string ⟨#[]⟩, .pointer none] : Array Value)[j]? := fun j => (hW.at_ j hl h.rl).trans (by rw [<- hwb]; exact za _ _ _ j)
  have f : ∀ j, W.frozen? ⟨w.heap.size, j, none⟩ = false := fun j => (hW.fzn j hl h.rl).trans (by rw [<- hwb]; exact ze _ _ _ _)
  exact ⟨⟨a 0, a 1, a 2, a 3⟩, f 0, f 1, f 2, f 3⟩)
 have hlt : w.heap.size < wb.heap.size := by rw [<- hwb]; simp
 have HWB := Lib.hid hwb
 have HB := Lib.hid hb
 have HH := Lib.hid h
 have hRb : R < wb.heap.size := Nat.lt_of_lt_of_le h.rl hb.size
 have hr := (hb.cell (p := ⟨t, 2, none⟩) t3).trans hr
 have d0 := (hb.cell (p := ⟨q, 4, none⟩) q3).trans d0
 have d1 := (hb.cell (p := ⟨q, 5, none⟩) q3).trans d1
 have d2 := (hb.cell (p := ⟨q, 6, none⟩) q3).trans d2
 have d3 := (hb.cell (p := ⟨q, 7, none⟩) q3).trans d3
 have t3b : t < wb.heap.size := Nat.lt_of_lt_of_le t3 hb.size
 have q3b : q < wb.heap.size := Nat.lt_of_lt_of_le q3 hb.size
 unfold PvSays sCdr
 clear h hwb hb hcl hbl
 clear hc hk hx hy ha hb2
 go_enter Tryz.func104, Tryz.ntmps104
 go_upto_region 1 with fail
 rw [HWB.out]
 go_wp2_with fail
 refine (KC.out wb HB.out).mono ?_
 rw [show isP (.pair va vb) = true from rfl]
 rintro e w2 ⟨rfl, hb2⟩
 have a3 := (hb2.cell (p := ⟨b, o + 3, none⟩) (Nat.lt_of_lt_of_le HH.out.bl HB.out.size)).trans a3
 have hr := (hb2.cell (p := ⟨t, 2, none⟩) t3b).trans hr
 have d0 := (hb2.cell (p := ⟨q, 4, none⟩) q3b).trans d0
 have d1 := (hb2.cell (p := ⟨q, 5, none⟩) q3b).trans d1
 have d2 := (hb2.cell (p := ⟨q, 6, none⟩) q3b).trans d2
 have d3 := (hb2.cell (p := ⟨q, 7, none⟩) q3b).trans d3
 have r2 := Lib.hid (Rnr.new (R := R) hb2 hRb)
 clear hb2
 obtain ⟨⟨u0, u1, u2, u3⟩, f0, f1, f2, f3⟩ := KU.out w2 r2.out
 have S := Lib.hid (set4_any (a0 := .int .i64 xk) (a1 := .int .i64 xn) (a2 := .string xs) (a3 := .pointer xp) rfl u0 u1 u2 u3)
 have HE := Lib.hid (pv_end (x := ⟨xk, xn, xs, xp⟩) (y := ⟨0, 0, ⟨#[]⟩, none⟩) HH.out.rl rfl HWB.out r2.out rfl (MV.row u0 u1 u2 u3))
 go_wp2_with fail
 obtain ⟨⟨s0, s1, s2, s3⟩, hg⟩ := S.out
 refine bodyPost_ret (v := .tuple #[.agg #[.int .i64 xk, .int .i64 xn, .string xs, .pointer xp], .int .i64 0]) (by simp [results, Tryz.results104, go_sem, s0, s1, s2, s3]) rfl ?_
 exact ⟨HE.out.1, _, _, _, _, rfl, HV.out.keep (fun b h1 h2 h3 => HE.out.2 b h3 (by have := HH.out.rlo; omega)) HE.out.1.size (Nat.le_refl _) HE.out.1.size⟩
set_option maxHeartbeats 4000000 in
theorem pv_cons {w : World} {R lo m b o cl : Nat} {k n : Int} {s : ByteArray} {p : Option Addr} {k' n' : Int} {s' : ByteArray} {p' : Option Addr} {u v : Vl} (h : PA2 w R lo m b o cl ⟨k, n, s, p⟩ ⟨k', n', s', p'⟩ u v) : PvSays w R lo sCons 2 b o cl (.ok (.pair u v)) := by
 obtain ⟨a0, a1, a2, a3⟩ := MV.at_ h.row
 simp only at a0 a1 a2 a3
 obtain ⟨b0, b1, b2, b3⟩ := MV.at_ h.row2
 simp only at b0 b1 b2 b3
 have hcl := h.cl2
 have hcl2 : cl <= 9223372036854775807 := by unfold maxLen at hcl; omega
 have hcl0 : (0 : Int) < (cl : Int) := by have := h.cl1; omega
 have hcl1 : (1 : Int) < (cl : Int) := by have := h.cl1; omega
 obtain ⟨wb, hwb⟩ : ∃ wb, w.alloc (.cells #[.int .i64 0, .int .i64 0, .string ⟨#[]⟩, .pointer none] 98) = wb := ⟨_, rfl⟩
 have hb : Below w.heap.size w wb := by rw [<- hwb]; exact (Below.refl _ _).alloc (Nat.le_refl _) _
 have hbl := h.bl
 have a0 := (hb.cell (p := ⟨b, o, none⟩) hbl).trans a0
 have a1 := (hb.cell (p := ⟨b, o + 1, none⟩) hbl).trans a1
 have a2 := (hb.cell (p := ⟨b, o + 2, none⟩) hbl).trans a2
 have a3 := (hb.cell (p := ⟨b, o + 3, none⟩) hbl).trans a3
 have b0 := (hb.cell (p := ⟨b, o + 4, none⟩) hbl).trans b0
 have b1 := (hb.cell (p := ⟨b, o + 4 + 1, none⟩) hbl).trans b1
 have b2 := (hb.cell (p := ⟨b, o + 4 + 2, none⟩) hbl).trans b2
 have b3 := (hb.cell (p := ⟨b, o + 4 + 3, none⟩) hbl).trans b3
 have KU := Lib.hid (show ∀ W, Rnr R wb W -> (W.cell? ⟨w.heap.size, 0, none⟩ = some (.int .i64 0) /\ W.cell? ⟨w.heap.size, 1, none⟩ = some (.int .i64 0) /\ W.cell? ⟨w.heap.size, 2, none⟩ = some (.string ⟨#[]⟩) /\ W.cell? ⟨w.heap.size, 3, none⟩ = some (.pointer none)) /\ (W.frozen? ⟨w.heap.size, 0, none⟩ = false /\ W.frozen? ⟨w.heap.size, 1, none⟩ = false /\ W.frozen? ⟨w.heap.size, 2, none⟩ = false /\ W.frozen? ⟨w.heap.size, 3, none⟩ = false) from fun W hW => by
  have hl : w.heap.size < wb.heap.size := by rw [<- hwb]; simp
  have a : ∀ j, W.cell? ⟨w.heap.size, j, none⟩ = (#[.int .i64 0, .int .i64 0, .string ⟨#[]⟩, .pointer none] : Array Value)[j]? := fun j => (hW.at_ j hl h.rl).trans (by rw [<- hwb]; exact za _ _ _ j)
  have f : ∀ j, W.frozen? ⟨w.heap.size, j, none⟩ = false := fun j => (hW.fzn j hl h.rl).trans (by rw [<- hwb]; exact ze _ _ _ _)
  exact ⟨⟨a 0, a 1, a 2, a 3⟩, f 0, f 1, f 2, f 3⟩)
 have hlt : w.heap.size < wb.heap.size := by rw [<- hwb]; simp
 have HWB := Lib.hid hwb
 have HB := Lib.hid hb
 have HH := Lib.hid h
 have hRb : R < wb.heap.size := Nat.lt_of_lt_of_le h.rl hb.size
 obtain ⟨c, hc⟩ := h.c4
 have hc := (hb.cell (p := ⟨R, 4, none⟩) h.rl).trans hc
 have hf := (hb.frozen (p := ⟨R, 4, none⟩) h.rl).trans h.rf
 unfold PvSays sCons
 clear h hwb hb hcl hbl
 go_enter Tryz.func104, Tryz.ntmps104
 go_upto_region 1 with fail
 rw [HWB.out]
 go_upto_region 4 with fail
 obtain ⟨w3, hw3⟩ : ∃ w3, wb.setCell ⟨R, 4, none⟩ (.int .i64 (wrap64 (c + 3))) = w3 := ⟨_, rfl⟩
 rw [hw3]
 have r3 : Rnr R wb w3 := by rw [<- hw3]; exact Rnr.set wb ⟨c, hc⟩
 have hbb : b < wb.heap.size := Nat.lt_of_lt_of_le HH.out.bl HB.out.size
 have kb := r3.block b hbb HH.out.bne
 have a0 := (World.cell?_of_block (a := ⟨b, o, none⟩) kb).trans a0
 have a1 := (World.cell?_of_block (a := ⟨b, o + 1, none⟩) kb).trans a1
 have a2 := (World.cell?_of_block (a := ⟨b, o + 2, none⟩) kb).trans a2
 have a3 := (World.cell?_of_block (a := ⟨b, o + 3, none⟩) kb).trans a3
 have b0 := (World.cell?_of_block (a := ⟨b, o + 4, none⟩) kb).trans b0
 have b1 := (World.cell?_of_block (a := ⟨b, o + 4 + 1, none⟩) kb).trans b1
 have b2 := (World.cell?_of_block (a := ⟨b, o + 4 + 2, none⟩) kb).trans b2
 have b3 := (World.cell?_of_block (a := ⟨b, o + 4 + 3, none⟩) kb).trans b3
 obtain ⟨⟨u0, u1, u2, u3⟩, f0, f1, f2, f3⟩ := KU.out w3 r3
 have R3 := Lib.hid r3
 have hlt3 : w.heap.size < w3.heap.size := Nat.lt_of_lt_of_le hlt r3.size
 clear hw3 r3 kb hc hf
 go_region
 all_goals
  go_wp2_with fail
  obtain ⟨w5, hw5⟩ : ∃ w5, (((w3.setCell ⟨w.heap.size, 0, none⟩ (.int .i64 0)).setCell ⟨w.heap.size, 1, none⟩ (.int .i64 0)).setCell ⟨w.heap.size, 2, none⟩ (.string ⟨#[]⟩)).setCell ⟨w.heap.size, 3, none⟩ (.pointer (some ⟨w3.heap.size + 1, 0, none⟩)) = w5 := ⟨_, rfl⟩
  obtain ⟨⟨s0, s1, s2, s3⟩, hg⟩ := set4_any hw5 u0 u1 u2 u3
  have e5 : w5.heap.size = w3.heap.size := by rw [<- hw5]; simp
  rw [hw5]
  obtain ⟨w6, hw6⟩ : ∃ w6, (w5.alloc (.cells #[.int .i64 k, .int .i64 n, .string s, .pointer p, .int .i64 k', .int .i64 n', .string s', .pointer p'] 98)).alloc (.cells #[.int .i64 6, .int .i64 0, .slice (some ⟨w3.heap.size, 0, none⟩) 2 2, .slice none 0 0, .int .i64 0, .int .i64 0, .int .i64 0, .string ⟨#[]⟩, .slice none 0 0, .string ⟨#[]⟩, .int .i64 0, .slice none 0 0, .slice none 0 0, .slice none 0 0, .bool false] 137) = w6 := ⟨_, rfl⟩
  obtain ⟨b56, s6, t6, k6, p6, rx, ry⟩ := pair_new (x := ⟨k', n', s', p'⟩) (y := ⟨k, n, s, p⟩) ⟨rfl, by rw [e5]; rfl⟩ hw6
  rw [hw6]
  rw [e5] at s6 t6 k6 p6 rx ry
  have b6 := b56.trans ((Below.refl w6.heap.size w6).drew.mono b56.size)
  have hl5 : w.heap.size < w5.heap.size := by omega
  have s0' := (b6.cell (p := ⟨w.heap.size, 0, none⟩) hl5).trans s0
  have s1' := (b6.cell (p := ⟨w.heap.size, 1, none⟩) hl5).trans s1
  have s2' := (b6.cell (p := ⟨w.heap.size, 2, none⟩) hl5).trans s2
  have s3' := (b6.cell (p := ⟨w.heap.size, 3, none⟩) hl5).trans s3
  have hr5 : Rnr R w w5 := ((Rnr.new HB.out HH.out.rl).trans R3.out).set2 HH.out.rl (Nat.le_refl _) hg
  have hr6 : Rnr R w w6.drew := hr5.trans (Rnr.new b6 (Nat.lt_of_lt_of_le HH.out.rl hr5.size))
  have sd : w6.drew.heap.size = w6.heap.size := rfl
  have hz6 := hr6.size
  refine bodyPost_ret (v := .tuple #[.agg #[.int .i64 0, .int .i64 0, .string ⟨#[]⟩, .pointer (some ⟨w3.heap.size + 1, 0, none⟩)], .int .i64 0]) (by simp only [results, Tryz.results104]; simp [go_sem, s0', s1', s2', s3']) rfl ?_
  have hm := HH.out.msz
  have hlo := HH.out.lom
  exact ⟨hr6, _, _, _, _, rfl, .pair (w3.heap.size + 1) w3.heap.size ⟨k, n, s, p⟩ ⟨k', n', s', p'⟩ u v (by omega) (by omega) (by omega) (by omega) (by omega) (by omega) t6 k6 p6 rx ry (HH.out.vl.keep (hr6.keep (Or.inl HH.out.rlo)) hz6 (Nat.le_refl _) (by omega)) (HH.out.vl2.keep (hr6.keep (Or.inl (by have := HH.out.rlo; omega))) hz6 hlo hz6)⟩
set_option maxHeartbeats 4000000 in
theorem pv_eqq {w : World} {R lo m b o cl : Nat} {k n : Int} {s : ByteArray} {p : Option Addr} {k' n' : Int} {s' : ByteArray} {p' : Option Addr} {u v : Vl} (h : PA2 w R lo m b o cl ⟨k, n, s, p⟩ ⟨k', n', s', p'⟩ u v) : PvSays w R lo sEqq 2 b o cl (.ok (bV (sameV u v))) := by
 obtain ⟨a0, a1, a2, a3⟩ := MV.at_ h.row
 simp only at a0 a1 a2 a3
 obtain ⟨b0, b1, b2, b3⟩ := MV.at_ h.row2
 simp only at b0 b1 b2 b3
 have hcl := h.cl2
 have hcl2 : cl <= 9223372036854775807 := by unfold maxLen at hcl; omega
 have hcl0 : (0 : Int) < (cl : Int) := by have := h.cl1; omega
 have hcl1 : (1 : Int) < (cl : Int) := by have := h.cl1; omega
 obtain ⟨wb, hwb⟩ : ∃ wb, w.alloc (.cells #[.int .i64 0, .int .i64 0, .string ⟨#[]⟩, .pointer none] 98) = wb := ⟨_, rfl⟩
 have hb : Below w.heap.size w wb := by rw [<- hwb]; exact (Below.refl _ _).alloc (Nat.le_refl _) _
 have hbl := h.bl
 have a0 := (hb.cell (p := ⟨b, o, none⟩) hbl).trans a0
 have a1 := (hb.cell (p := ⟨b, o + 1, none⟩) hbl).trans a1
 have a2 := (hb.cell (p := ⟨b, o + 2, none⟩) hbl).trans a2
 have a3 := (hb.cell (p := ⟨b, o + 3, none⟩) hbl).trans a3
 have b0 := (hb.cell (p := ⟨b, o + 4, none⟩) hbl).trans b0
 have b1 := (hb.cell (p := ⟨b, o + 4 + 1, none⟩) hbl).trans b1
 have b2 := (hb.cell (p := ⟨b, o + 4 + 2, none⟩) hbl).trans b2
 have b3 := (hb.cell (p := ⟨b, o + 4 + 3, none⟩) hbl).trans b3
 have KU := Lib.hid (show ∀ W, Rnr R wb W -> (W.cell? ⟨w.heap.size, 0, none⟩ = some (.int .i64 0) /\ W.cell? ⟨w.heap.size, 1, none⟩ = some (.int .i64 0) /\ W.cell? ⟨w.heap.size, 2, none⟩ = some (.string ⟨#[]⟩) /\ W.cell? ⟨w.heap.size, 3, none⟩ = some (.pointer none)) /\ (W.frozen? ⟨w.heap.size, 0, none⟩ = false /\ W.frozen? ⟨w.heap.size, 1, none⟩ = false /\ W.frozen? ⟨w.heap.size, 2, none⟩ = false /\ W.frozen? ⟨w.heap.size, 3, none⟩ = false) from fun W hW => by
  have hl : w.heap.size < wb.heap.size := by rw [<- hwb]; simp
  have a : ∀ j, W.cell? ⟨w.heap.size, j, none⟩ = (#[.int .i64 0, .int .i64 0, .string ⟨#[]⟩, .pointer none] : Array Value)[j]? := fun j => (hW.at_ j hl h.rl).trans (by rw [<- hwb]; exact za _ _ _ j)
  have f : ∀ j, W.frozen? ⟨w.heap.size, j, none⟩ = false := fun j => (hW.fzn j hl h.rl).trans (by rw [<- hwb]; exact ze _ _ _ _)
  exact ⟨⟨a 0, a 1, a 2, a 3⟩, f 0, f 1, f 2, f 3⟩)
 have hlt : w.heap.size < wb.heap.size := by rw [<- hwb]; simp
 have HWB := Lib.hid hwb
 have HB := Lib.hid hb
 have HH := Lib.hid h
 have hRb : R < wb.heap.size := Nat.lt_of_lt_of_le h.rl hb.size
 have heq := eqPtr 9998 p p' (w := wb.drew) (fun x y hx hy => by
  cases h.vl with
  | pair t1 q1 x1 y1 va vb t11 t12 t13 q11 q12 q13 hc1 =>
   cases h.vl2 with
   | pair t2 q2 x2 y2 va2 vb2 t21 t22 t23 q21 q22 q23 hc2 =>
    simp only [Option.some.injEq] at hx hy
    subst hx hy
    obtain ⟨c1, hc1⟩ := hc1
    obtain ⟨c2, hc2⟩ := hc2
    exact ⟨fun e => by have := congrArg Addr.block e; simp only at this; omega, ⟨c1, (hb.block _ t13).trans hc1⟩, c2, (hb.block _ t23).trans hc2⟩
   | _ => cases hy
  | _ => cases hx)
 have hm := same_m h.vl h.vl2
 rw [<- hm]
 have e : sameM ⟨k, n, s, p⟩ ⟨k', n', s', p'⟩ = (((k == k') && (n == n') && decide (s = s')) && decide (p = p')) := rfl
 rw [e]
 clear e hm
 unfold PvSays sEqq
 clear h hwb hb hcl hbl
 by_cases hk : k = k'
 ·
  by_cases hn : n = n'
  ·
   by_cases hs : s.toList = s'.toList
   ·
    rw [show (((k == k') && (n == n') && decide (s = s')) && decide (p = p')) = decide (p = p') by rw [hk, hn, bytes_eq hs]; simp]
    cases hbb : decide (p = p')
    ·
     rw [hbb, show (9998 : Nat) + 1 = 9999 from rfl] at heq
     clear hbb
     go_enter Tryz.func104, Tryz.ntmps104
     go_upto_region 1 with fail
     rw [HWB.out]
     go_upto_region 19 with fail
     go_still_tail 7, (by kernel_rfl)
     change wpList _ _ _ _ _ wb.drew
     obtain ⟨wd, hwd⟩ : ∃ wd, wb.drew = wd := ⟨_, rfl⟩
     rw [hwd]
     have hrd := Lib.hid (show Rnr R wb wd from by rw [<- hwd]; exact Rnr.new ((Below.refl _ _).drew) hRb)
     clear hwd
     go_wp2_with fail
     refine (asBool_any false _).mono ?_
     rintro e w3 ⟨rfl, hb3⟩
     rw [show (boolW false).agg = .agg #[.int .i64 2, .int .i64 (if false then 1 else 0), .string ⟨#[]⟩] from rfl]
     obtain ⟨z, hz⟩ : ∃ z : Int, (if false = true then (1 : Int) else 0) = z := ⟨_, rfl⟩
     rw [hz]
     have HZ := Lib.hid hz
     have r3 := Lib.hid (Rnr.trans hrd.out (Rnr.new hb3 (Nat.lt_of_lt_of_le hRb (hrd.out).size)))
     clear hb3 hz
     go_wp2_with fail
     refine (asVal_any 2 z ⟨#[]⟩ _).mono ?_
     rintro e w4 ⟨rfl, hb4⟩
     have r4 := Lib.hid (r3.out.trans (Rnr.new hb4 (Nat.lt_of_lt_of_le hRb r3.out.size)))
     clear hb4
     obtain ⟨⟨u0, u1, u2, u3⟩, f0, f1, f2, f3⟩ := KU.out w4 r4.out
     have S := Lib.hid (set4_any (a0 := .int .i64 2) (a1 := .int .i64 z) (a2 := .string ⟨#[]⟩) (a3 := .pointer none) rfl u0 u1 u2 u3)
     have HE := Lib.hid (pv_end (x := ⟨2, z, ⟨#[]⟩, none⟩) (y := ⟨0, 0, ⟨#[]⟩, none⟩) HH.out.rl rfl HWB.out r4.out rfl (MV.row u0 u1 u2 u3))
     go_wp2_with fail
     obtain ⟨⟨s0, s1, s2, s3⟩, hg⟩ := S.out
     refine bodyPost_ret (v := .tuple #[.agg #[.int .i64 2, .int .i64 z, .string ⟨#[]⟩, .pointer none], .int .i64 0]) (by simp [results, Tryz.results104, go_sem, s0, s1, s2, s3]) rfl ?_
     exact ⟨HE.out.1, _, _, _, _, rfl, by rw [<- HZ.out]; exact vl_bool _ _ _ false⟩
    rw [hbb, show (9998 : Nat) + 1 = 9999 from rfl] at heq
    clear hbb
    go_enter Tryz.func104, Tryz.ntmps104
    go_upto_region 1 with fail
    rw [HWB.out]
    go_upto_region 19 with fail
    go_still_tail 7, (by kernel_rfl)
    change wpList _ _ _ _ _ wb.drew
    obtain ⟨wd, hwd⟩ : ∃ wd, wb.drew = wd := ⟨_, rfl⟩
    rw [hwd]
    have hrd := Lib.hid (show Rnr R wb wd from by rw [<- hwd]; exact Rnr.new ((Below.refl _ _).drew) hRb)
    clear hwd
    go_wp2_with fail
    refine (asBool_any true _).mono ?_
    rintro e w3 ⟨rfl, hb3⟩
    rw [show (boolW true).agg = .agg #[.int .i64 2, .int .i64 (if true then 1 else 0), .string ⟨#[]⟩] from rfl]
    obtain ⟨z, hz⟩ : ∃ z : Int, (if true = true then (1 : Int) else 0) = z := ⟨_, rfl⟩
    rw [hz]
    have HZ := Lib.hid hz
    have r3 := Lib.hid (Rnr.trans hrd.out (Rnr.new hb3 (Nat.lt_of_lt_of_le hRb (hrd.out).size)))
    clear hb3 hz
    go_wp2_with fail
    refine (asVal_any 2 z ⟨#[]⟩ _).mono ?_
    rintro e w4 ⟨rfl, hb4⟩
    have r4 := Lib.hid (r3.out.trans (Rnr.new hb4 (Nat.lt_of_lt_of_le hRb r3.out.size)))
    clear hb4
    obtain ⟨⟨u0, u1, u2, u3⟩, f0, f1, f2, f3⟩ := KU.out w4 r4.out
    have S := Lib.hid (set4_any (a0 := .int .i64 2) (a1 := .int .i64 z) (a2 := .string ⟨#[]⟩) (a3 := .pointer none) rfl u0 u1 u2 u3)
    have HE := Lib.hid (pv_end (x := ⟨2, z, ⟨#[]⟩, none⟩) (y := ⟨0, 0, ⟨#[]⟩, none⟩) HH.out.rl rfl HWB.out r4.out rfl (MV.row u0 u1 u2 u3))
    go_wp2_with fail
    obtain ⟨⟨s0, s1, s2, s3⟩, hg⟩ := S.out
    refine bodyPost_ret (v := .tuple #[.agg #[.int .i64 2, .int .i64 z, .string ⟨#[]⟩, .pointer none], .int .i64 0]) (by simp [results, Tryz.results104, go_sem, s0, s1, s2, s3]) rfl ?_
    exact ⟨HE.out.1, _, _, _, _, rfl, by rw [<- HZ.out]; exact vl_bool _ _ _ true⟩
   rw [show (((k == k') && (n == n') && decide (s = s')) && decide (p = p')) = false by rw [decide_eq_false (fun e => hs (by rw [e]))]; simp]
   clear heq
   go_enter Tryz.func104, Tryz.ntmps104
   go_upto_region 1 with fail
   rw [HWB.out]
   go_upto_region 19 with fail
   go_still_tail 7, (by kernel_rfl)
   change wpList _ _ _ _ _ wb.drew
   obtain ⟨wd, hwd⟩ : ∃ wd, wb.drew = wd := ⟨_, rfl⟩
   rw [hwd]
   have hrd := Lib.hid (show Rnr R wb wd from by rw [<- hwd]; exact Rnr.new ((Below.refl _ _).drew) hRb)
   clear hwd
   go_wp2_with fail
   refine (asBool_any false _).mono ?_
   rintro e w3 ⟨rfl, hb3⟩
   rw [show (boolW false).agg = .agg #[.int .i64 2, .int .i64 (if false then 1 else 0), .string ⟨#[]⟩] from rfl]
   obtain ⟨z, hz⟩ : ∃ z : Int, (if false = true then (1 : Int) else 0) = z := ⟨_, rfl⟩
   rw [hz]
   have HZ := Lib.hid hz
   have r3 := Lib.hid (Rnr.trans hrd.out (Rnr.new hb3 (Nat.lt_of_lt_of_le hRb (hrd.out).size)))
   clear hb3 hz
   go_wp2_with fail
   refine (asVal_any 2 z ⟨#[]⟩ _).mono ?_
   rintro e w4 ⟨rfl, hb4⟩
   have r4 := Lib.hid (r3.out.trans (Rnr.new hb4 (Nat.lt_of_lt_of_le hRb r3.out.size)))
   clear hb4
   obtain ⟨⟨u0, u1, u2, u3⟩, f0, f1, f2, f3⟩ := KU.out w4 r4.out
   have S := Lib.hid (set4_any (a0 := .int .i64 2) (a1 := .int .i64 z) (a2 := .string ⟨#[]⟩) (a3 := .pointer none) rfl u0 u1 u2 u3)
   have HE := Lib.hid (pv_end (x := ⟨2, z, ⟨#[]⟩, none⟩) (y := ⟨0, 0, ⟨#[]⟩, none⟩) HH.out.rl rfl HWB.out r4.out rfl (MV.row u0 u1 u2 u3))
   go_wp2_with fail
   obtain ⟨⟨s0, s1, s2, s3⟩, hg⟩ := S.out
   refine bodyPost_ret (v := .tuple #[.agg #[.int .i64 2, .int .i64 z, .string ⟨#[]⟩, .pointer none], .int .i64 0]) (by simp [results, Tryz.results104, go_sem, s0, s1, s2, s3]) rfl ?_
   exact ⟨HE.out.1, _, _, _, _, rfl, by rw [<- HZ.out]; exact vl_bool _ _ _ false⟩
  rw [show (((k == k') && (n == n') && decide (s = s')) && decide (p = p')) = false by rw [show (n == n') = false by simpa using hn]; simp]
  clear heq
  go_enter Tryz.func104, Tryz.ntmps104
  go_upto_region 1 with fail
  rw [HWB.out]
  go_upto_region 19 with fail
  go_still_tail 7, (by kernel_rfl)
  change wpList _ _ _ _ _ wb.drew
  obtain ⟨wd, hwd⟩ : ∃ wd, wb.drew = wd := ⟨_, rfl⟩
  rw [hwd]
  have hrd := Lib.hid (show Rnr R wb wd from by rw [<- hwd]; exact Rnr.new ((Below.refl _ _).drew) hRb)
  clear hwd
  go_wp2_with fail
  refine (asBool_any false _).mono ?_
  rintro e w3 ⟨rfl, hb3⟩
  rw [show (boolW false).agg = .agg #[.int .i64 2, .int .i64 (if false then 1 else 0), .string ⟨#[]⟩] from rfl]
  obtain ⟨z, hz⟩ : ∃ z : Int, (if false = true then (1 : Int) else 0) = z := ⟨_, rfl⟩
  rw [hz]
  have HZ := Lib.hid hz
  have r3 := Lib.hid (Rnr.trans hrd.out (Rnr.new hb3 (Nat.lt_of_lt_of_le hRb (hrd.out).size)))
  clear hb3 hz
  go_wp2_with fail
  refine (asVal_any 2 z ⟨#[]⟩ _).mono ?_
  rintro e w4 ⟨rfl, hb4⟩
  have r4 := Lib.hid (r3.out.trans (Rnr.new hb4 (Nat.lt_of_lt_of_le hRb r3.out.size)))
  clear hb4
  obtain ⟨⟨u0, u1, u2, u3⟩, f0, f1, f2, f3⟩ := KU.out w4 r4.out
  have S := Lib.hid (set4_any (a0 := .int .i64 2) (a1 := .int .i64 z) (a2 := .string ⟨#[]⟩) (a3 := .pointer none) rfl u0 u1 u2 u3)
  have HE := Lib.hid (pv_end (x := ⟨2, z, ⟨#[]⟩, none⟩) (y := ⟨0, 0, ⟨#[]⟩, none⟩) HH.out.rl rfl HWB.out r4.out rfl (MV.row u0 u1 u2 u3))
  go_wp2_with fail
  obtain ⟨⟨s0, s1, s2, s3⟩, hg⟩ := S.out
  refine bodyPost_ret (v := .tuple #[.agg #[.int .i64 2, .int .i64 z, .string ⟨#[]⟩, .pointer none], .int .i64 0]) (by simp [results, Tryz.results104, go_sem, s0, s1, s2, s3]) rfl ?_
  exact ⟨HE.out.1, _, _, _, _, rfl, by rw [<- HZ.out]; exact vl_bool _ _ _ false⟩
 rw [show (((k == k') && (n == n') && decide (s = s')) && decide (p = p')) = false by rw [show (k == k') = false by simpa using hk]; simp]
 clear heq
 go_enter Tryz.func104, Tryz.ntmps104
 go_upto_region 1 with fail
 rw [HWB.out]
 go_upto_region 19 with fail
 go_still_tail 7, (by kernel_rfl)
 change wpList _ _ _ _ _ wb.drew
 obtain ⟨wd, hwd⟩ : ∃ wd, wb.drew = wd := ⟨_, rfl⟩
 rw [hwd]
 have hrd := Lib.hid (show Rnr R wb wd from by rw [<- hwd]; exact Rnr.new ((Below.refl _ _).drew) hRb)
 clear hwd
 go_wp2_with fail
 refine (asBool_any false _).mono ?_
 rintro e w3 ⟨rfl, hb3⟩
 rw [show (boolW false).agg = .agg #[.int .i64 2, .int .i64 (if false then 1 else 0), .string ⟨#[]⟩] from rfl]
 obtain ⟨z, hz⟩ : ∃ z : Int, (if false = true then (1 : Int) else 0) = z := ⟨_, rfl⟩
 rw [hz]
 have HZ := Lib.hid hz
 have r3 := Lib.hid (Rnr.trans hrd.out (Rnr.new hb3 (Nat.lt_of_lt_of_le hRb (hrd.out).size)))
 clear hb3 hz
 go_wp2_with fail
 refine (asVal_any 2 z ⟨#[]⟩ _).mono ?_
 rintro e w4 ⟨rfl, hb4⟩
 have r4 := Lib.hid (r3.out.trans (Rnr.new hb4 (Nat.lt_of_lt_of_le hRb r3.out.size)))
 clear hb4
 obtain ⟨⟨u0, u1, u2, u3⟩, f0, f1, f2, f3⟩ := KU.out w4 r4.out
 have S := Lib.hid (set4_any (a0 := .int .i64 2) (a1 := .int .i64 z) (a2 := .string ⟨#[]⟩) (a3 := .pointer none) rfl u0 u1 u2 u3)
 have HE := Lib.hid (pv_end (x := ⟨2, z, ⟨#[]⟩, none⟩) (y := ⟨0, 0, ⟨#[]⟩, none⟩) HH.out.rl rfl HWB.out r4.out rfl (MV.row u0 u1 u2 u3))
 go_wp2_with fail
 obtain ⟨⟨s0, s1, s2, s3⟩, hg⟩ := S.out
 refine bodyPost_ret (v := .tuple #[.agg #[.int .i64 2, .int .i64 z, .string ⟨#[]⟩, .pointer none], .int .i64 0]) (by simp [results, Tryz.results104, go_sem, s0, s1, s2, s3]) rfl ?_
 exact ⟨HE.out.1, _, _, _, _, rfl, by rw [<- HZ.out]; exact vl_bool _ _ _ false⟩
set_option maxHeartbeats 4000000 in
theorem pv_bad {op : ByteArray} (q0 : (op.toList == [99, 111, 110, 115]) = false) (q1 : (op.toList == [99, 97, 114]) = false) (q2 : (op.toList == [99, 100, 114]) = false) (q3 : (op.toList == [110, 117, 108, 108, 63]) = false) (q4 : (op.toList == [112, 97, 105, 114, 63]) = false) (q5 : (op.toList == [110, 111, 116]) = false) (q6 : (op.toList == [101, 113, 63]) = false) (q7 : (op.toList == [101, 114, 114, 111, 114]) = false) {w : World} {R lo m b o cl : Nat} {k n : Int} {s : ByteArray} {p : Option Addr} {k' n' : Int} {s' : ByteArray} {p' : Option Addr} {u v : Vl} (h : PA2 w R lo m b o cl ⟨k, n, s, p⟩ ⟨k', n', s', p'⟩ u v) (hn : ∀ a c, ¬ (u = .int a /\ v = .int c)) : PvSays w R lo op 2 b o cl (.error 3) := by
 cases p with
 | some pt =>
  obtain ⟨a0, a1, a2, a3⟩ := MV.at_ h.row
  simp only at a0 a1 a2 a3
  obtain ⟨b0, b1, b2, b3⟩ := MV.at_ h.row2
  simp only at b0 b1 b2 b3
  have hcl := h.cl2
  have hcl2 : cl <= 9223372036854775807 := by unfold maxLen at hcl; omega
  have hcl0 : (0 : Int) < (cl : Int) := by have := h.cl1; omega
  have hcl1 : (1 : Int) < (cl : Int) := by have := h.cl1; omega
  obtain ⟨wb, hwb⟩ : ∃ wb, w.alloc (.cells #[.int .i64 0, .int .i64 0, .string ⟨#[]⟩, .pointer none] 98) = wb := ⟨_, rfl⟩
  have hb : Below w.heap.size w wb := by rw [<- hwb]; exact (Below.refl _ _).alloc (Nat.le_refl _) _
  have hbl := h.bl
  have a0 := (hb.cell (p := ⟨b, o, none⟩) hbl).trans a0
  have a1 := (hb.cell (p := ⟨b, o + 1, none⟩) hbl).trans a1
  have a2 := (hb.cell (p := ⟨b, o + 2, none⟩) hbl).trans a2
  have a3 := (hb.cell (p := ⟨b, o + 3, none⟩) hbl).trans a3
  have b0 := (hb.cell (p := ⟨b, o + 4, none⟩) hbl).trans b0
  have b1 := (hb.cell (p := ⟨b, o + 4 + 1, none⟩) hbl).trans b1
  have b2 := (hb.cell (p := ⟨b, o + 4 + 2, none⟩) hbl).trans b2
  have b3 := (hb.cell (p := ⟨b, o + 4 + 3, none⟩) hbl).trans b3
  have KU := Lib.hid (show ∀ W, Rnr R wb W -> (W.cell? ⟨w.heap.size, 0, none⟩ = some (.int .i64 0) /\ W.cell? ⟨w.heap.size, 1, none⟩ = some (.int .i64 0) /\ W.cell? ⟨w.heap.size, 2, none⟩ = some (.string ⟨#[]⟩) /\ W.cell? ⟨w.heap.size, 3, none⟩ = some (.pointer none)) /\ (W.frozen? ⟨w.heap.size, 0, none⟩ = false /\ W.frozen? ⟨w.heap.size, 1, none⟩ = false /\ W.frozen? ⟨w.heap.size, 2, none⟩ = false /\ W.frozen? ⟨w.heap.size, 3, none⟩ = false) from fun W hW => by
   have hl : w.heap.size < wb.heap.size := by rw [<- hwb]; simp
   have a : ∀ j, W.cell? ⟨w.heap.size, j, none⟩ = (#[.int .i64 0, .int .i64 0, .string ⟨#[]⟩, .pointer none] : Array Value)[j]? := fun j => (hW.at_ j hl h.rl).trans (by rw [<- hwb]; exact za _ _ _ j)
   have f : ∀ j, W.frozen? ⟨w.heap.size, j, none⟩ = false := fun j => (hW.fzn j hl h.rl).trans (by rw [<- hwb]; exact ze _ _ _ _)
   exact ⟨⟨a 0, a 1, a 2, a 3⟩, f 0, f 1, f 2, f 3⟩)
  have hlt : w.heap.size < wb.heap.size := by rw [<- hwb]; simp
  have HWB := Lib.hid hwb
  have HB := Lib.hid hb
  have HH := Lib.hid h
  have hRb : R < wb.heap.size := Nat.lt_of_lt_of_le h.rl hb.size
  clear hn
  unfold PvSays
  clear h hwb hb hcl hbl
  go_enter Tryz.func104, Tryz.ntmps104
  go_upto_region 1 with fail
  rw [HWB.out]
  obtain ⟨⟨u0, u1, u2, u3⟩, f0, f1, f2, f3⟩ := KU.out wb (Rnr.refl R wb)
  have S := Lib.hid (set4_any (a0 := .int .i64 0) (a1 := .int .i64 0) (a2 := .string ⟨#[]⟩) (a3 := .pointer none) rfl u0 u1 u2 u3)
  have HE := Lib.hid (pv_end (x := ⟨0, 0, ⟨#[]⟩, none⟩) (y := ⟨0, 0, ⟨#[]⟩, none⟩) HH.out.rl rfl HWB.out (Rnr.refl R wb) rfl (MV.row u0 u1 u2 u3))
  go_wp2_with fail
  obtain ⟨⟨s0, s1, s2, s3⟩, hg⟩ := S.out
  refine bodyPost_ret (v := .tuple #[.agg #[.int .i64 0, .int .i64 0, .string ⟨#[]⟩, .pointer none], .int .i64 3]) (by simp [results, Tryz.results104, go_sem, s0, s1, s2, s3]) rfl ?_
  exact ⟨HE.out.1, _, _, _, _, rfl⟩
 | none =>
  cases p' with
  | some pt =>
   obtain ⟨a0, a1, a2, a3⟩ := MV.at_ h.row
   simp only at a0 a1 a2 a3
   obtain ⟨b0, b1, b2, b3⟩ := MV.at_ h.row2
   simp only at b0 b1 b2 b3
   have hcl := h.cl2
   have hcl2 : cl <= 9223372036854775807 := by unfold maxLen at hcl; omega
   have hcl0 : (0 : Int) < (cl : Int) := by have := h.cl1; omega
   have hcl1 : (1 : Int) < (cl : Int) := by have := h.cl1; omega
   obtain ⟨wb, hwb⟩ : ∃ wb, w.alloc (.cells #[.int .i64 0, .int .i64 0, .string ⟨#[]⟩, .pointer none] 98) = wb := ⟨_, rfl⟩
   have hb : Below w.heap.size w wb := by rw [<- hwb]; exact (Below.refl _ _).alloc (Nat.le_refl _) _
   have hbl := h.bl
   have a0 := (hb.cell (p := ⟨b, o, none⟩) hbl).trans a0
   have a1 := (hb.cell (p := ⟨b, o + 1, none⟩) hbl).trans a1
   have a2 := (hb.cell (p := ⟨b, o + 2, none⟩) hbl).trans a2
   have a3 := (hb.cell (p := ⟨b, o + 3, none⟩) hbl).trans a3
   have b0 := (hb.cell (p := ⟨b, o + 4, none⟩) hbl).trans b0
   have b1 := (hb.cell (p := ⟨b, o + 4 + 1, none⟩) hbl).trans b1
   have b2 := (hb.cell (p := ⟨b, o + 4 + 2, none⟩) hbl).trans b2
   have b3 := (hb.cell (p := ⟨b, o + 4 + 3, none⟩) hbl).trans b3
   have KU := Lib.hid (show ∀ W, Rnr R wb W -> (W.cell? ⟨w.heap.size, 0, none⟩ = some (.int .i64 0) /\ W.cell? ⟨w.heap.size, 1, none⟩ = some (.int .i64 0) /\ W.cell? ⟨w.heap.size, 2, none⟩ = some (.string ⟨#[]⟩) /\ W.cell? ⟨w.heap.size, 3, none⟩ = some (.pointer none)) /\ (W.frozen? ⟨w.heap.size, 0, none⟩ = false /\ W.frozen? ⟨w.heap.size, 1, none⟩ = false /\ W.frozen? ⟨w.heap.size, 2, none⟩ = false /\ W.frozen? ⟨w.heap.size, 3, none⟩ = false) from fun W hW => by
    have hl : w.heap.size < wb.heap.size := by rw [<- hwb]; simp
    have a : ∀ j, W.cell? ⟨w.heap.size, j, none⟩ = (#[.int .i64 0, .int .i64 0, .string ⟨#[]⟩, .pointer none] : Array Value)[j]? := fun j => (hW.at_ j hl h.rl).trans (by rw [<- hwb]; exact za _ _ _ j)
    have f : ∀ j, W.frozen? ⟨w.heap.size, j, none⟩ = false := fun j => (hW.fzn j hl h.rl).trans (by rw [<- hwb]; exact ze _ _ _ _)
    exact ⟨⟨a 0, a 1, a 2, a 3⟩, f 0, f 1, f 2, f 3⟩)
   have hlt : w.heap.size < wb.heap.size := by rw [<- hwb]; simp
   have HWB := Lib.hid hwb
   have HB := Lib.hid hb
   have HH := Lib.hid h
   have hRb : R < wb.heap.size := Nat.lt_of_lt_of_le h.rl hb.size
   clear hn
   unfold PvSays
   clear h hwb hb hcl hbl
   go_enter Tryz.func104, Tryz.ntmps104
   go_upto_region 1 with fail
   rw [HWB.out]
   obtain ⟨⟨u0, u1, u2, u3⟩, f0, f1, f2, f3⟩ := KU.out wb (Rnr.refl R wb)
   have S := Lib.hid (set4_any (a0 := .int .i64 0) (a1 := .int .i64 0) (a2 := .string ⟨#[]⟩) (a3 := .pointer none) rfl u0 u1 u2 u3)
   have HE := Lib.hid (pv_end (x := ⟨0, 0, ⟨#[]⟩, none⟩) (y := ⟨0, 0, ⟨#[]⟩, none⟩) HH.out.rl rfl HWB.out (Rnr.refl R wb) rfl (MV.row u0 u1 u2 u3))
   go_wp2_with fail
   obtain ⟨⟨s0, s1, s2, s3⟩, hg⟩ := S.out
   refine bodyPost_ret (v := .tuple #[.agg #[.int .i64 0, .int .i64 0, .string ⟨#[]⟩, .pointer none], .int .i64 3]) (by simp [results, Tryz.results104, go_sem, s0, s1, s2, s3]) rfl ?_
   exact ⟨HE.out.1, _, _, _, _, rfl⟩
  | none =>
   by_cases hk : k = 1
   ·
    by_cases hk' : k' = 1
    ·
     exfalso
     subst hk hk'
     cases h.vl
     cases h.vl2
     exact hn _ _ ⟨rfl, rfl⟩
    subst hk
    have hq2 : (k' != 1) = true := by simpa using hk'
    obtain ⟨a0, a1, a2, a3⟩ := MV.at_ h.row
    simp only at a0 a1 a2 a3
    obtain ⟨b0, b1, b2, b3⟩ := MV.at_ h.row2
    simp only at b0 b1 b2 b3
    have hcl := h.cl2
    have hcl2 : cl <= 9223372036854775807 := by unfold maxLen at hcl; omega
    have hcl0 : (0 : Int) < (cl : Int) := by have := h.cl1; omega
    have hcl1 : (1 : Int) < (cl : Int) := by have := h.cl1; omega
    obtain ⟨wb, hwb⟩ : ∃ wb, w.alloc (.cells #[.int .i64 0, .int .i64 0, .string ⟨#[]⟩, .pointer none] 98) = wb := ⟨_, rfl⟩
    have hb : Below w.heap.size w wb := by rw [<- hwb]; exact (Below.refl _ _).alloc (Nat.le_refl _) _
    have hbl := h.bl
    have a0 := (hb.cell (p := ⟨b, o, none⟩) hbl).trans a0
    have a1 := (hb.cell (p := ⟨b, o + 1, none⟩) hbl).trans a1
    have a2 := (hb.cell (p := ⟨b, o + 2, none⟩) hbl).trans a2
    have a3 := (hb.cell (p := ⟨b, o + 3, none⟩) hbl).trans a3
    have b0 := (hb.cell (p := ⟨b, o + 4, none⟩) hbl).trans b0
    have b1 := (hb.cell (p := ⟨b, o + 4 + 1, none⟩) hbl).trans b1
    have b2 := (hb.cell (p := ⟨b, o + 4 + 2, none⟩) hbl).trans b2
    have b3 := (hb.cell (p := ⟨b, o + 4 + 3, none⟩) hbl).trans b3
    have KU := Lib.hid (show ∀ W, Rnr R wb W -> (W.cell? ⟨w.heap.size, 0, none⟩ = some (.int .i64 0) /\ W.cell? ⟨w.heap.size, 1, none⟩ = some (.int .i64 0) /\ W.cell? ⟨w.heap.size, 2, none⟩ = some (.string ⟨#[]⟩) /\ W.cell? ⟨w.heap.size, 3, none⟩ = some (.pointer none)) /\ (W.frozen? ⟨w.heap.size, 0, none⟩ = false /\ W.frozen? ⟨w.heap.size, 1, none⟩ = false /\ W.frozen? ⟨w.heap.size, 2, none⟩ = false /\ W.frozen? ⟨w.heap.size, 3, none⟩ = false) from fun W hW => by
     have hl : w.heap.size < wb.heap.size := by rw [<- hwb]; simp
     have a : ∀ j, W.cell? ⟨w.heap.size, j, none⟩ = (#[.int .i64 0, .int .i64 0, .string ⟨#[]⟩, .pointer none] : Array Value)[j]? := fun j => (hW.at_ j hl h.rl).trans (by rw [<- hwb]; exact za _ _ _ j)
     have f : ∀ j, W.frozen? ⟨w.heap.size, j, none⟩ = false := fun j => (hW.fzn j hl h.rl).trans (by rw [<- hwb]; exact ze _ _ _ _)
     exact ⟨⟨a 0, a 1, a 2, a 3⟩, f 0, f 1, f 2, f 3⟩)
    have hlt : w.heap.size < wb.heap.size := by rw [<- hwb]; simp
    have HWB := Lib.hid hwb
    have HB := Lib.hid hb
    have HH := Lib.hid h
    have hRb : R < wb.heap.size := Nat.lt_of_lt_of_le h.rl hb.size
    clear hn
    unfold PvSays
    clear h hwb hb hcl hbl
    go_enter Tryz.func104, Tryz.ntmps104
    go_upto_region 1 with fail
    rw [HWB.out]
    obtain ⟨⟨u0, u1, u2, u3⟩, f0, f1, f2, f3⟩ := KU.out wb (Rnr.refl R wb)
    have S := Lib.hid (set4_any (a0 := .int .i64 0) (a1 := .int .i64 0) (a2 := .string ⟨#[]⟩) (a3 := .pointer none) rfl u0 u1 u2 u3)
    have HE := Lib.hid (pv_end (x := ⟨0, 0, ⟨#[]⟩, none⟩) (y := ⟨0, 0, ⟨#[]⟩, none⟩) HH.out.rl rfl HWB.out (Rnr.refl R wb) rfl (MV.row u0 u1 u2 u3))
    go_wp2_with fail
    obtain ⟨⟨s0, s1, s2, s3⟩, hg⟩ := S.out
    refine bodyPost_ret (v := .tuple #[.agg #[.int .i64 0, .int .i64 0, .string ⟨#[]⟩, .pointer none], .int .i64 3]) (by simp [results, Tryz.results104, go_sem, s0, s1, s2, s3]) rfl ?_
    exact ⟨HE.out.1, _, _, _, _, rfl⟩
   have hq1 : (k != 1) = true := by simpa using hk
   obtain ⟨a0, a1, a2, a3⟩ := MV.at_ h.row
   simp only at a0 a1 a2 a3
   obtain ⟨b0, b1, b2, b3⟩ := MV.at_ h.row2
   simp only at b0 b1 b2 b3
   have hcl := h.cl2
   have hcl2 : cl <= 9223372036854775807 := by unfold maxLen at hcl; omega
   have hcl0 : (0 : Int) < (cl : Int) := by have := h.cl1; omega
   have hcl1 : (1 : Int) < (cl : Int) := by have := h.cl1; omega
   obtain ⟨wb, hwb⟩ : ∃ wb, w.alloc (.cells #[.int .i64 0, .int .i64 0, .string ⟨#[]⟩, .pointer none] 98) = wb := ⟨_, rfl⟩
   have hb : Below w.heap.size w wb := by rw [<- hwb]; exact (Below.refl _ _).alloc (Nat.le_refl _) _
   have hbl := h.bl
   have a0 := (hb.cell (p := ⟨b, o, none⟩) hbl).trans a0
   have a1 := (hb.cell (p := ⟨b, o + 1, none⟩) hbl).trans a1
   have a2 := (hb.cell (p := ⟨b, o + 2, none⟩) hbl).trans a2
   have a3 := (hb.cell (p := ⟨b, o + 3, none⟩) hbl).trans a3
   have b0 := (hb.cell (p := ⟨b, o + 4, none⟩) hbl).trans b0
   have b1 := (hb.cell (p := ⟨b, o + 4 + 1, none⟩) hbl).trans b1
   have b2 := (hb.cell (p := ⟨b, o + 4 + 2, none⟩) hbl).trans b2
   have b3 := (hb.cell (p := ⟨b, o + 4 + 3, none⟩) hbl).trans b3
   have KU := Lib.hid (show ∀ W, Rnr R wb W -> (W.cell? ⟨w.heap.size, 0, none⟩ = some (.int .i64 0) /\ W.cell? ⟨w.heap.size, 1, none⟩ = some (.int .i64 0) /\ W.cell? ⟨w.heap.size, 2, none⟩ = some (.string ⟨#[]⟩) /\ W.cell? ⟨w.heap.size, 3, none⟩ = some (.pointer none)) /\ (W.frozen? ⟨w.heap.size, 0, none⟩ = false /\ W.frozen? ⟨w.heap.size, 1, none⟩ = false /\ W.frozen? ⟨w.heap.size, 2, none⟩ = false /\ W.frozen? ⟨w.heap.size, 3, none⟩ = false) from fun W hW => by
    have hl : w.heap.size < wb.heap.size := by rw [<- hwb]; simp
    have a : ∀ j, W.cell? ⟨w.heap.size, j, none⟩ = (#[.int .i64 0, .int .i64 0, .string ⟨#[]⟩, .pointer none] : Array Value)[j]? := fun j => (hW.at_ j hl h.rl).trans (by rw [<- hwb]; exact za _ _ _ j)
    have f : ∀ j, W.frozen? ⟨w.heap.size, j, none⟩ = false := fun j => (hW.fzn j hl h.rl).trans (by rw [<- hwb]; exact ze _ _ _ _)
    exact ⟨⟨a 0, a 1, a 2, a 3⟩, f 0, f 1, f 2, f 3⟩)
   have hlt : w.heap.size < wb.heap.size := by rw [<- hwb]; simp
   have HWB := Lib.hid hwb
   have HB := Lib.hid hb
   have HH := Lib.hid h
   have hRb : R < wb.heap.size := Nat.lt_of_lt_of_le h.rl hb.size
   clear hn
   unfold PvSays
   clear h hwb hb hcl hbl
   go_enter Tryz.func104, Tryz.ntmps104
   go_upto_region 1 with fail
   rw [HWB.out]
   obtain ⟨⟨u0, u1, u2, u3⟩, f0, f1, f2, f3⟩ := KU.out wb (Rnr.refl R wb)
   have S := Lib.hid (set4_any (a0 := .int .i64 0) (a1 := .int .i64 0) (a2 := .string ⟨#[]⟩) (a3 := .pointer none) rfl u0 u1 u2 u3)
   have HE := Lib.hid (pv_end (x := ⟨0, 0, ⟨#[]⟩, none⟩) (y := ⟨0, 0, ⟨#[]⟩, none⟩) HH.out.rl rfl HWB.out (Rnr.refl R wb) rfl (MV.row u0 u1 u2 u3))
   go_wp2_with fail
   obtain ⟨⟨s0, s1, s2, s3⟩, hg⟩ := S.out
   refine bodyPost_ret (v := .tuple #[.agg #[.int .i64 0, .int .i64 0, .string ⟨#[]⟩, .pointer none], .int .i64 3]) (by simp [results, Tryz.results104, go_sem, s0, s1, s2, s3]) rfl ?_
   exact ⟨HE.out.1, _, _, _, _, rfl⟩
set_option maxHeartbeats 4000000 in
theorem pv_ints {op : ByteArray} (q0 : (op.toList == [99, 111, 110, 115]) = false) (q1 : (op.toList == [99, 97, 114]) = false) (q2 : (op.toList == [99, 100, 114]) = false) (q3 : (op.toList == [110, 117, 108, 108, 63]) = false) (q4 : (op.toList == [112, 97, 105, 114, 63]) = false) (q5 : (op.toList == [110, 111, 116]) = false) (q6 : (op.toList == [101, 113, 63]) = false) (q7 : (op.toList == [101, 114, 114, 111, 114]) = false) {w : World} {R lo m b o cl : Nat} {x y : Int} (h : PA2 w R lo m b o cl ⟨1, x, ⟨#[]⟩, none⟩ ⟨1, y, ⟨#[]⟩, none⟩ (.int x) (.int y)) {xk xn : Int} {xs : ByteArray} {er : Int} {r : Rs Vl}
  (hc : ∀ W, Calls Tryz.prog 103 #[.string op, .int .i64 x, .int .i64 y] W fun e w' => e = .returned (.tuple #[.agg #[.int .i64 xk, .int .i64 xn, .string xs], .int .i64 er]) /\ Below W.heap.size W w')
  (hr : (∃ v, r = .ok v /\ er = 0 /\ ∀ w lo hi, VlIn w lo hi ⟨xk, xn, xs, none⟩ v) \/ r = .error er) : PvSays w R lo op 2 b o cl r := by
 have KC := Lib.hid hc
 have HR := Lib.hid hr
 clear hc hr
 obtain ⟨a0, a1, a2, a3⟩ := MV.at_ h.row
 simp only at a0 a1 a2 a3
 obtain ⟨b0, b1, b2, b3⟩ := MV.at_ h.row2
 simp only at b0 b1 b2 b3
 have hcl := h.cl2
 have hcl2 : cl <= 9223372036854775807 := by unfold maxLen at hcl; omega
 have hcl0 : (0 : Int) < (cl : Int) := by have := h.cl1; omega
 have hcl1 : (1 : Int) < (cl : Int) := by have := h.cl1; omega
 obtain ⟨wb, hwb⟩ : ∃ wb, w.alloc (.cells #[.int .i64 0, .int .i64 0, .string ⟨#[]⟩, .pointer none] 98) = wb := ⟨_, rfl⟩
 have hb : Below w.heap.size w wb := by rw [<- hwb]; exact (Below.refl _ _).alloc (Nat.le_refl _) _
 have hbl := h.bl
 have a0 := (hb.cell (p := ⟨b, o, none⟩) hbl).trans a0
 have a1 := (hb.cell (p := ⟨b, o + 1, none⟩) hbl).trans a1
 have a2 := (hb.cell (p := ⟨b, o + 2, none⟩) hbl).trans a2
 have a3 := (hb.cell (p := ⟨b, o + 3, none⟩) hbl).trans a3
 have b0 := (hb.cell (p := ⟨b, o + 4, none⟩) hbl).trans b0
 have b1 := (hb.cell (p := ⟨b, o + 4 + 1, none⟩) hbl).trans b1
 have b2 := (hb.cell (p := ⟨b, o + 4 + 2, none⟩) hbl).trans b2
 have b3 := (hb.cell (p := ⟨b, o + 4 + 3, none⟩) hbl).trans b3
 have KU := Lib.hid (show ∀ W, Rnr R wb W -> (W.cell? ⟨w.heap.size, 0, none⟩ = some (.int .i64 0) /\ W.cell? ⟨w.heap.size, 1, none⟩ = some (.int .i64 0) /\ W.cell? ⟨w.heap.size, 2, none⟩ = some (.string ⟨#[]⟩) /\ W.cell? ⟨w.heap.size, 3, none⟩ = some (.pointer none)) /\ (W.frozen? ⟨w.heap.size, 0, none⟩ = false /\ W.frozen? ⟨w.heap.size, 1, none⟩ = false /\ W.frozen? ⟨w.heap.size, 2, none⟩ = false /\ W.frozen? ⟨w.heap.size, 3, none⟩ = false) from fun W hW => by
  have hl : w.heap.size < wb.heap.size := by rw [<- hwb]; simp
  have a : ∀ j, W.cell? ⟨w.heap.size, j, none⟩ = (#[.int .i64 0, .int .i64 0, .string ⟨#[]⟩, .pointer none] : Array Value)[j]? := fun j => (hW.at_ j hl h.rl).trans (by rw [<- hwb]; exact za _ _ _ j)
  have f : ∀ j, W.frozen? ⟨w.heap.size, j, none⟩ = false := fun j => (hW.fzn j hl h.rl).trans (by rw [<- hwb]; exact ze _ _ _ _)
  exact ⟨⟨a 0, a 1, a 2, a 3⟩, f 0, f 1, f 2, f 3⟩)
 have hlt : w.heap.size < wb.heap.size := by rw [<- hwb]; simp
 have HWB := Lib.hid hwb
 have HB := Lib.hid hb
 have HH := Lib.hid h
 have hRb : R < wb.heap.size := Nat.lt_of_lt_of_le h.rl hb.size
 have hbb : b < wb.heap.size := Nat.lt_of_lt_of_le h.bl hb.size
 have hne1 : b ≠ wb.heap.size := by omega
 have hne2 : wb.heap.size ≠ b := by omega
 have KAL := Lib.hid (show (wb.alloc (.cells #[.int .i64 0, .int .i64 0, .string ⟨#[]⟩] 49)).drew.cell? ⟨b, o + 1, none⟩ = some (.int .i64 x) /\ (wb.alloc (.cells #[.int .i64 0, .int .i64 0, .string ⟨#[]⟩] 49)).drew.cell? ⟨b, o + 4 + 1, none⟩ = some (.int .i64 y) from ⟨(World.cell?_alloc_lt _ _ ⟨b, o + 1, none⟩ hbb).trans a1, (World.cell?_alloc_lt _ _ ⟨b, o + 4 + 1, none⟩ hbb).trans b1⟩)
 unfold PvSays
 clear h hwb hb hcl hbl
 go_enter Tryz.func104, Tryz.ntmps104
 go_upto_region 1 with fail
 rw [HWB.out]
 go_upto_region 24 with fail
 go_region_held3 (fun w' => w'.cell? ⟨b, o + 1, none⟩ = some (.int .i64 x) /\ w'.cell? ⟨b, o + 4 + 1, none⟩ = some (.int .i64 y)) (go_keep)
  (first
    | (go_at_call 103; (with_reducible show Calls _ _ _ wb.drew _); refine (KC.out _).mono ?_; rintro e w5 ⟨rfl, hb5⟩; have r5 := Lib.hid (show Rnr R wb w5 from (Rnr.new ((Below.refl _ _).drew) hRb).trans (Rnr.new hb5 hRb)); have x1 : w5.cell? ⟨b, o + 1, none⟩ = some (.int .i64 x) := (hb5.cell (p := ⟨b, o + 1, none⟩) hbb).trans a1; have y1 : w5.cell? ⟨b, o + 4 + 1, none⟩ = some (.int .i64 y) := (hb5.cell (p := ⟨b, o + 4 + 1, none⟩) hbb).trans b1; clear hb5)
    | (go_at_call 103; (with_reducible show Calls _ _ _ ((wb.alloc (.cells #[.int .i64 0, .int .i64 0, .string ⟨#[]⟩] 49)).drew) _); refine (KC.out _).mono ?_; rintro e w5 ⟨rfl, hb5⟩; have r5 := Lib.hid (show Rnr R wb w5 from (Rnr.new (((Below.refl _ _).alloc (Nat.le_refl _) _).drew) hRb).trans (Rnr.new hb5 (by simp; omega))); have x1 : w5.cell? ⟨b, o + 1, none⟩ = some (.int .i64 x) := (hb5.cell (p := ⟨b, o + 1, none⟩) (by simp; omega)).trans KAL.out.1; have y1 : w5.cell? ⟨b, o + 4 + 1, none⟩ = some (.int .i64 y) := (hb5.cell (p := ⟨b, o + 4 + 1, none⟩) (by simp; omega)).trans KAL.out.2; have hz5 : wb.heap.size < w5.heap.size := Nat.lt_of_lt_of_le (by simp) hb5.size; have z0 : w5.cell? ⟨wb.heap.size, 0, none⟩ = some (.int .i64 0) := (hb5.cell (p := ⟨wb.heap.size, 0, none⟩) (by simp)).trans (za _ _ _ 0); have z1 : w5.cell? ⟨wb.heap.size, 1, none⟩ = some (.int .i64 0) := (hb5.cell (p := ⟨wb.heap.size, 1, none⟩) (by simp)).trans (za _ _ _ 1); have z2 : w5.cell? ⟨wb.heap.size, 2, none⟩ = some (.string ⟨#[]⟩) := (hb5.cell (p := ⟨wb.heap.size, 2, none⟩) (by simp)).trans (za _ _ _ 2); have hzf : ∀ j, w5.frozen? ⟨wb.heap.size, j, none⟩ = false := fun j => (hb5.frozen (p := ⟨wb.heap.size, j, none⟩) (by simp)).trans (ze _ _ _ _); have zf0 := hzf 0; have zf1 := hzf 1; have zf2 := hzf 2; clear hb5 hzf))
 ·
  obtain ⟨w6, hw6⟩ : ∃ w6, w5.alloc (.cells #[.int .i64 xk, .int .i64 xn, .string xs] 49) = w6 := ⟨_, rfl⟩
  have p0 : w6.cell? ⟨w5.heap.size, 0, none⟩ = some (.int .i64 xk) := by rw [<- hw6]; exact za _ _ _ 0
  have p1 : w6.cell? ⟨w5.heap.size, 1, none⟩ = some (.int .i64 xn) := by rw [<- hw6]; exact za _ _ _ 1
  have p2 : w6.cell? ⟨w5.heap.size, 2, none⟩ = some (.string xs) := by rw [<- hw6]; exact za _ _ _ 2
  have r6 := Lib.hid (show Rnr R wb w6 from r5.out.trans (Rnr.new (by rw [<- hw6]; exact (Below.refl _ _).alloc (Nat.le_refl _) _) (Nat.lt_of_lt_of_le hRb r5.out.size)))
  rw [hw6]
  clear hw6
  go_wp2_with fail
  refine (asVal_any xk xn xs _).mono ?_
  rintro e w7 ⟨rfl, hb7⟩
  have r7 := Lib.hid (r6.out.trans (Rnr.new hb7 (Nat.lt_of_lt_of_le hRb r6.out.size)))
  clear hb7
  obtain ⟨⟨u0, u1, u2, u3⟩, f0, f1, f2, f3⟩ := KU.out w7 r7.out
  have S := Lib.hid (set4_any (a0 := .int .i64 xk) (a1 := .int .i64 xn) (a2 := .string xs) (a3 := .pointer none) rfl u0 u1 u2 u3)
  have HE := Lib.hid (pv_end (x := ⟨xk, xn, xs, none⟩) (y := ⟨0, 0, ⟨#[]⟩, none⟩) HH.out.rl rfl HWB.out r7.out rfl (MV.row u0 u1 u2 u3))
  go_wp2_with fail
  obtain ⟨⟨s0, s1, s2, s3⟩, hg⟩ := S.out
  refine bodyPost_ret (v := .tuple #[.agg #[.int .i64 xk, .int .i64 xn, .string xs, .pointer none], .int .i64 er]) (by simp [results, Tryz.results104, go_sem, s0, s1, s2, s3]) rfl ?_
  refine ⟨HE.out.1, ?_⟩
  rcases HR.out with ⟨v, rfl, rfl, hv⟩ | rfl
  ·
   exact ⟨_, _, _, _, rfl, hv _ _ _⟩
  exact ⟨_, _, _, _, rfl⟩
 obtain ⟨w6, hw6⟩ : ∃ w6, ((w5.setCell ⟨wb.heap.size, 0, none⟩ (.int .i64 xk)).setCell ⟨wb.heap.size, 1, none⟩ (.int .i64 xn)).setCell ⟨wb.heap.size, 2, none⟩ (.string xs) = w6 := ⟨_, rfl⟩
 have p0 : w6.cell? ⟨wb.heap.size, 0, none⟩ = some (.int .i64 xk) := by rw [<- hw6]; exact set3_0 z0
 have p1 : w6.cell? ⟨wb.heap.size, 1, none⟩ = some (.int .i64 xn) := by rw [<- hw6]; exact set3_1 z1
 have p2 : w6.cell? ⟨wb.heap.size, 2, none⟩ = some (.string xs) := by rw [<- hw6]; exact set3_2 z2
 have r6 := Lib.hid (show Rnr R wb w6 from r5.out.set2 hRb (Nat.le_refl _) (by rw [<- hw6]; exact grown_set3 _ _ _ _ _))
 rw [hw6]
 clear hw6
 go_wp2_with fail
 refine (asVal_any xk xn xs _).mono ?_
 rintro e w7 ⟨rfl, hb7⟩
 have r7 := Lib.hid (r6.out.trans (Rnr.new hb7 (Nat.lt_of_lt_of_le hRb r6.out.size)))
 clear hb7
 obtain ⟨⟨u0, u1, u2, u3⟩, f0, f1, f2, f3⟩ := KU.out w7 r7.out
 have S := Lib.hid (set4_any (a0 := .int .i64 xk) (a1 := .int .i64 xn) (a2 := .string xs) (a3 := .pointer none) rfl u0 u1 u2 u3)
 have HE := Lib.hid (pv_end (x := ⟨xk, xn, xs, none⟩) (y := ⟨0, 0, ⟨#[]⟩, none⟩) HH.out.rl rfl HWB.out r7.out rfl (MV.row u0 u1 u2 u3))
 go_wp2_with fail
 obtain ⟨⟨s0, s1, s2, s3⟩, hg⟩ := S.out
 refine bodyPost_ret (v := .tuple #[.agg #[.int .i64 xk, .int .i64 xn, .string xs, .pointer none], .int .i64 er]) (by simp [results, Tryz.results104, go_sem, s0, s1, s2, s3]) rfl ?_
 refine ⟨HE.out.1, ?_⟩
 rcases HR.out with ⟨v, rfl, rfl, hv⟩ | rfl
 ·
  exact ⟨_, _, _, _, rfl, hv _ _ _⟩
 exact ⟨_, _, _, _, rfl⟩
theorem pv_calc {op : ByteArray} (q0 : (op.toList == [99, 111, 110, 115]) = false) (q1 : (op.toList == [99, 97, 114]) = false) (q2 : (op.toList == [99, 100, 114]) = false) (q3 : (op.toList == [110, 117, 108, 108, 63]) = false) (q4 : (op.toList == [112, 97, 105, 114, 63]) = false) (q5 : (op.toList == [110, 111, 116]) = false) (q6 : (op.toList == [101, 113, 63]) = false) (q7 : (op.toList == [101, 114, 114, 111, 114]) = false) {w : World} {R lo m b o cl : Nat} {x y : Int} (h : PA2 w R lo m b o cl ⟨1, x, ⟨#[]⟩, none⟩ ⟨1, y, ⟨#[]⟩, none⟩ (.int x) (.int y)) (hc : ∀ W, CalcSays op x y W (calcW op x y)) : PvSays w R lo op 2 b o cl (calcV op x y) := by
 obtain ⟨⟨⟨xk, xn, xs⟩, er⟩, hX⟩ : ∃ z, resW (calcW op x y) = z := ⟨_, rfl⟩
 refine pv_ints q0 q1 q2 q3 q4 q5 q6 q7 h (xk := xk) (xn := xn) (xs := xs) (er := er) (fun W => ?_) ?_
 ·
  have := hc W
  unfold CalcSays resV at this
  rw [hX] at this
  exact this
 cases hv : calcV op x y with
 | ok v =>
  obtain ⟨z, hz, ha⟩ := vl_calc hv
  rw [hz] at hX
  simp only [resW, Prod.mk.injEq] at hX
  obtain ⟨rfl, rfl⟩ := hX
  exact Or.inl ⟨v, rfl, rfl, ha⟩
 | error e =>
  rw [calcW_of hv] at hX
  simp only [wOfV, resW, Prod.mk.injEq] at hX
  obtain ⟨_, rfl⟩ := hX
  exact Or.inr rfl
theorem pv_two {op : ByteArray} (q0 : (op.toList == [99, 111, 110, 115]) = false) (q1 : (op.toList == [99, 97, 114]) = false) (q2 : (op.toList == [99, 100, 114]) = false) (q3 : (op.toList == [110, 117, 108, 108, 63]) = false) (q4 : (op.toList == [112, 97, 105, 114, 63]) = false) (q5 : (op.toList == [110, 111, 116]) = false) (q6 : (op.toList == [101, 113, 63]) = false) (q7 : (op.toList == [101, 114, 114, 111, 114]) = false) (h1 : op ≠ sCons) (h2 : op ≠ sEqq) {w : World} {R lo m b o cl : Nat} {k n : Int} {s : ByteArray} {p : Option Addr} {k' n' : Int} {s' : ByteArray} {p' : Option Addr} {u v : Vl} (h : PA2 w R lo m b o cl ⟨k, n, s, p⟩ ⟨k', n', s', p'⟩ u v) (hu : VlOk u) (hv : VlOk v) (hc : ∀ x y W, -1099511627776 <= x /\ x <= 1099511627776 -> -1099511627776 <= y /\ y <= 1099511627776 -> CalcSays op x y W (calcW op x y)) : PvSays w R lo op 2 b o cl (primV op [u, v]) := by
 by_cases hi : ∃ a c, u = .int a /\ v = .int c
 ·
  obtain ⟨a, c, rfl, rfl⟩ := hi
  have e : primV op [.int a, .int c] = calcV op a c := by unfold primV; simp only [if_neg h1, if_neg h2]
  rw [e]
  have e1 : k = 1 /\ n = a /\ s = ⟨#[]⟩ /\ p = none := by cases h.vl; exact ⟨rfl, rfl, rfl, rfl⟩
  have e2 : k' = 1 /\ n' = c /\ s' = ⟨#[]⟩ /\ p' = none := by cases h.vl2; exact ⟨rfl, rfl, rfl, rfl⟩
  obtain ⟨rfl, rfl, rfl, rfl⟩ := e1
  obtain ⟨rfl, rfl, rfl, rfl⟩ := e2
  unfold VlOk big at hu hv
  exact pv_calc q0 q1 q2 q3 q4 q5 q6 q7 h (fun W => hc _ _ W hu hv)
 ·
  have e : primV op [u, v] = .error 3 := by
   unfold primV
   simp only [if_neg h1, if_neg h2]
   split
   ·
    exact absurd ⟨_, _, rfl, rfl⟩ hi
   rfl
  rw [e]
  exact pv_bad q0 q1 q2 q3 q4 q5 q6 q7 h (fun a c hac => hi ⟨a, c, hac.1, hac.2⟩)
theorem primVal1_any {op : ByteArray} (ha : arP op = 1) {w : World} {R lo b o cl : Nat} {k n : Int} {s : ByteArray} {p : Option Addr} {v : Vl} (h : PA1 w R lo b o cl ⟨k, n, s, p⟩ v) : PvSays w R lo op 1 b o cl (primV op [v]) := by
 unfold arP at ha
 split at ha
 ·
  omega
 split at ha
 ·
  rename_i hm
  rcases hm with rfl | rfl | rfl | rfl | rfl | rfl
  ·
   cases v with
   | pair x y =>
    rw [show primV sCar [.pair x y] = .ok x from rfl]
    exact pv_carP h
   | int n1 =>
    rw [show primV sCar [.int n1] = .error 3 from rfl]
    exact pv_carN h rfl
   | bool n1 =>
    rw [show primV sCar [.bool n1] = .error 3 from rfl]
    exact pv_carN h rfl
   | nil =>
    rw [show primV sCar [.nil] = .error 3 from rfl]
    exact pv_carN h rfl
   | sym s1 =>
    rw [show primV sCar [.sym s1] = .error 3 from rfl]
    exact pv_carN h rfl
  ·
   cases v with
   | pair x y =>
    rw [show primV sCdr [.pair x y] = .ok y from rfl]
    exact pv_cdrP h
   | int n1 =>
    rw [show primV sCdr [.int n1] = .error 3 from rfl]
    exact pv_cdrN h rfl
   | bool n1 =>
    rw [show primV sCdr [.bool n1] = .error 3 from rfl]
    exact pv_cdrN h rfl
   | nil =>
    rw [show primV sCdr [.nil] = .error 3 from rfl]
    exact pv_cdrN h rfl
   | sym s1 =>
    rw [show primV sCdr [.sym s1] = .error 3 from rfl]
    exact pv_cdrN h rfl
  ·
   exact pv_null h
  ·
   exact pv_pair h
  ·
   exact pv_not h
  exact pv_error h
 omega
theorem primVal2_any {op : ByteArray} (ha : arP op = 2) {w : World} {R lo m b o cl : Nat} {k n : Int} {s : ByteArray} {p : Option Addr} {k' n' : Int} {s' : ByteArray} {p' : Option Addr} {u v : Vl} (h : PA2 w R lo m b o cl ⟨k, n, s, p⟩ ⟨k', n', s', p'⟩ u v) (hu : VlOk u) (hv : VlOk v) : PvSays w R lo op 2 b o cl (primV op [u, v]) := by
 have q : ∀ {a c : ByteArray}, (a.data.toList == c.data.toList) = false -> (a.toList == c.data.toList) = false := fun h => by rw [ByteArray.toList_eq]; exact h
 unfold arP at ha
 split at ha
 ·
  rename_i hm
  rcases hm with rfl | rfl | rfl | rfl | rfl | rfl | rfl | rfl | rfl
  ·
   exact pv_two (q (c := ⟨#[99, 111, 110, 115]⟩) rfl) (q (c := ⟨#[99, 97, 114]⟩) rfl) (q (c := ⟨#[99, 100, 114]⟩) rfl) (q (c := ⟨#[110, 117, 108, 108, 63]⟩) rfl) (q (c := ⟨#[112, 97, 105, 114, 63]⟩) rfl) (q (c := ⟨#[110, 111, 116]⟩) rfl) (q (c := ⟨#[101, 113, 63]⟩) rfl) (q (c := ⟨#[101, 114, 114, 111, 114]⟩) rfl) (by decide) (by decide) h hu hv (fun x y W hx hy => by rw [calcW_plus]; exact calc_plus x y W hx hy)
  ·
   exact pv_two (q (c := ⟨#[99, 111, 110, 115]⟩) rfl) (q (c := ⟨#[99, 97, 114]⟩) rfl) (q (c := ⟨#[99, 100, 114]⟩) rfl) (q (c := ⟨#[110, 117, 108, 108, 63]⟩) rfl) (q (c := ⟨#[112, 97, 105, 114, 63]⟩) rfl) (q (c := ⟨#[110, 111, 116]⟩) rfl) (q (c := ⟨#[101, 113, 63]⟩) rfl) (q (c := ⟨#[101, 114, 114, 111, 114]⟩) rfl) (by decide) (by decide) h hu hv (fun x y W hx hy => by rw [calcW_minus]; exact calc_minus x y W hx hy)
  ·
   exact pv_two (q (c := ⟨#[99, 111, 110, 115]⟩) rfl) (q (c := ⟨#[99, 97, 114]⟩) rfl) (q (c := ⟨#[99, 100, 114]⟩) rfl) (q (c := ⟨#[110, 117, 108, 108, 63]⟩) rfl) (q (c := ⟨#[112, 97, 105, 114, 63]⟩) rfl) (q (c := ⟨#[110, 111, 116]⟩) rfl) (q (c := ⟨#[101, 113, 63]⟩) rfl) (q (c := ⟨#[101, 114, 114, 111, 114]⟩) rfl) (by decide) (by decide) h hu hv (fun x y W hx hy => by rw [calcW_times]; exact calc_times x y W hx hy)
  ·
   exact pv_two (q (c := ⟨#[99, 111, 110, 115]⟩) rfl) (q (c := ⟨#[99, 97, 114]⟩) rfl) (q (c := ⟨#[99, 100, 114]⟩) rfl) (q (c := ⟨#[110, 117, 108, 108, 63]⟩) rfl) (q (c := ⟨#[112, 97, 105, 114, 63]⟩) rfl) (q (c := ⟨#[110, 111, 116]⟩) rfl) (q (c := ⟨#[101, 113, 63]⟩) rfl) (q (c := ⟨#[101, 114, 114, 111, 114]⟩) rfl) (by decide) (by decide) h hu hv (fun x y W hx hy => by rw [calcW_quot]; exact calc_quot x y W hx hy)
  ·
   exact pv_two (q (c := ⟨#[99, 111, 110, 115]⟩) rfl) (q (c := ⟨#[99, 97, 114]⟩) rfl) (q (c := ⟨#[99, 100, 114]⟩) rfl) (q (c := ⟨#[110, 117, 108, 108, 63]⟩) rfl) (q (c := ⟨#[112, 97, 105, 114, 63]⟩) rfl) (q (c := ⟨#[110, 111, 116]⟩) rfl) (q (c := ⟨#[101, 113, 63]⟩) rfl) (q (c := ⟨#[101, 114, 114, 111, 114]⟩) rfl) (by decide) (by decide) h hu hv (fun x y W hx hy => by rw [calcW_rem]; exact calc_rem x y W hx hy)
  ·
   exact pv_two (q (c := ⟨#[99, 111, 110, 115]⟩) rfl) (q (c := ⟨#[99, 97, 114]⟩) rfl) (q (c := ⟨#[99, 100, 114]⟩) rfl) (q (c := ⟨#[110, 117, 108, 108, 63]⟩) rfl) (q (c := ⟨#[112, 97, 105, 114, 63]⟩) rfl) (q (c := ⟨#[110, 111, 116]⟩) rfl) (q (c := ⟨#[101, 113, 63]⟩) rfl) (q (c := ⟨#[101, 114, 114, 111, 114]⟩) rfl) (by decide) (by decide) h hu hv (fun x y W hx hy => by rw [calcW_eq]; exact calc_eq x y W)
  ·
   exact pv_two (q (c := ⟨#[99, 111, 110, 115]⟩) rfl) (q (c := ⟨#[99, 97, 114]⟩) rfl) (q (c := ⟨#[99, 100, 114]⟩) rfl) (q (c := ⟨#[110, 117, 108, 108, 63]⟩) rfl) (q (c := ⟨#[112, 97, 105, 114, 63]⟩) rfl) (q (c := ⟨#[110, 111, 116]⟩) rfl) (q (c := ⟨#[101, 113, 63]⟩) rfl) (q (c := ⟨#[101, 114, 114, 111, 114]⟩) rfl) (by decide) (by decide) h hu hv (fun x y W hx hy => by rw [calcW_lt]; exact calc_lt x y W)
  ·
   exact pv_cons h
  exact pv_eqq h
 split at ha <;> omega
end Go.Proofs.YtfhbdlobhjegcaaGreatDoor
