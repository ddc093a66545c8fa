import Derived.Test.YtfhbdlobhjegcaaGreatDoorGQhi
namespace Go.Proofs.YtfhbdlobhjegcaaGreatDoor
open Go.RowKit Go.ChangeShapes Go.WideShapes Go.Deep Go.ChangeAt
set_option linter.unusedVariables false
set_option maxRecDepth 20000
def resW : Rs Wd -> Wd × Int
 | .ok w => (w, 0)
 | .error e => (noW, e)
def resV (r : Rs Wd) : Value := .tuple #[(resW r).1.agg, .int .i64 (resW r).2]
set_option maxHeartbeats 1000000 in
theorem asInt_any (n : Int) (w : World) : Calls Tryz.prog 25 #[.int .i64 n] w fun e w' => e = .returned (.agg #[.int .i64 1, .int .i64 n, .string ⟨#[]⟩]) /\ Below w.heap.size w w' := by
 go_enter Tryz.func25, Tryz.ntmps25
 go_wp2_with fail
 refine bodyPost_ret (v := .agg #[.int .i64 1, .int .i64 n, .string ⟨#[]⟩]) (by simp [results, Tryz.results25, go_sem]) rfl ?_
 exact ⟨rfl, (Below.refl _ _).alloc (Nat.le_refl _) _⟩
set_option maxHeartbeats 1000000 in
theorem asBool_any (b : Bool) (w : World) : Calls Tryz.prog 80 #[.bool b] w fun e w' => e = .returned (boolW b).agg /\ Below w.heap.size w w' := by
 unfold boolW Wd.agg
 cases b
 ·
  go_enter Tryz.func80, Tryz.ntmps80
  go_wp2_with fail
  refine bodyPost_ret (v := .agg #[.int .i64 2, .int .i64 0, .string ⟨#[]⟩]) (by simp [results, Tryz.results80, go_sem]) rfl ?_
  exact ⟨rfl, (Below.refl _ _).alloc (Nat.le_refl _) _⟩
 go_enter Tryz.func80, Tryz.ntmps80
 go_wp2_with fail
 refine bodyPost_ret (v := .agg #[.int .i64 2, .int .i64 1, .string ⟨#[]⟩]) (by simp [results, Tryz.results80, go_sem]) rfl ?_
 exact ⟨rfl, (Below.refl _ _).alloc (Nat.le_refl _) _⟩
def fitW (n : Int) : Rs Wd := if n < -big \/ big < n then .error 2 else .ok ⟨1, n, ⟨#[]⟩⟩
def fitV (n : Int) : Rs Vl := if n < -big \/ big < n then .error 2 else .ok (.int n)
def wOfV : Rs Vl -> Rs Wd
 | .ok (.int n) => .ok ⟨1, n, ⟨#[]⟩⟩
 | .ok (.bool n) => .ok ⟨2, n, ⟨#[]⟩⟩
 | .ok _ => .error 0
 | .error e => .error e
theorem calcW_of {s : ByteArray} {a b : Int} {r : Rs Vl} (h : calcV s a b = r) : calcW s a b = wOfV r := by
 rw [<- h]
 unfold calcW wOfV
 rfl
theorem calcW_fit {s : ByteArray} {a b n : Int} (h : calcV s a b = fitV n) : calcW s a b = fitW n := by
 rw [calcW_of h]
 unfold fitV fitW
 by_cases hr : n < -big \/ big < n
 ·
  rw [if_pos hr, if_pos hr]; rfl
 rw [if_neg hr, if_neg hr]; rfl
theorem calcW_plus (a b : Int) : calcW sPlus a b = fitW (a + b) := calcW_fit (by
 unfold calcV fitV
 rw [if_pos rfl])
theorem calcW_minus (a b : Int) : calcW sMinus a b = fitW (a - b) := calcW_fit (by
 unfold calcV fitV
 rw [if_neg (by decide), if_pos rfl])
theorem calcW_eq (a b : Int) : calcW sEq a b = .ok (boolW (a == b)) := by
 rw [calcW_of (r := .ok (bV (a == b))) (by
  unfold calcV
  rw [if_neg (by decide), if_neg (by decide), if_pos rfl])]
 rfl
theorem calcW_lt (a b : Int) : calcW sLt a b = .ok (boolW (decide (a < b))) := by
 rw [calcW_of (r := .ok (bV (decide (a < b)))) (by
  unfold calcV
  rw [if_neg (by decide), if_neg (by decide), if_neg (by decide), if_pos rfl])]
 rfl
theorem calcV_times (a b : Int) : calcV sTimes a b = if 0 < b.natAbs /\ big.toNat / b.natAbs < a.natAbs then .error 2 else fitV (a * b) := by
 unfold calcV fitV
 rw [if_neg (by decide), if_neg (by decide), if_neg (by decide), if_neg (by decide), if_pos rfl]
theorem calcW_times (a b : Int) : calcW sTimes a b = if 0 < b.natAbs /\ big.toNat / b.natAbs < a.natAbs then .error 2 else fitW (a * b) := by
 by_cases h : 0 < b.natAbs /\ big.toNat / b.natAbs < a.natAbs
 ·
  rw [if_pos h, calcW_of (r := .error 2) (by rw [calcV_times, if_pos h])]; rfl
 rw [if_neg h, calcW_fit (by rw [calcV_times, if_neg h])]
theorem calcV_quot (a b : Int) : calcV sQuot a b = if b = 0 then .error 2 else fitV (a.tdiv b) := by
 unfold calcV fitV
 rw [if_neg (by decide), if_neg (by decide), if_neg (by decide), if_neg (by decide), if_neg (by decide), if_neg (show ¬ sQuot = sRem by decide)]
theorem calcW_quot (a b : Int) : calcW sQuot a b = if b = 0 then .error 2 else fitW (a.tdiv b) := by
 by_cases h : b = 0
 ·
  rw [if_pos h, calcW_of (r := .error 2) (by rw [calcV_quot, if_pos h])]; rfl
 rw [if_neg h, calcW_fit (by rw [calcV_quot, if_neg h])]
theorem calcV_rem (a b : Int) : calcV sRem a b = if b = 0 then .error 2 else fitV (a - (a.tdiv b) * b) := by
 unfold calcV fitV
 rw [if_neg (by decide), if_neg (by decide), if_neg (by decide), if_neg (by decide), if_neg (by decide), if_pos (show sRem = sRem from rfl)]
theorem calcW_rem (a b : Int) : calcW sRem a b = if b = 0 then .error 2 else fitW (a - (a.tdiv b) * b) := by
 by_cases h : b = 0
 ·
  rw [if_pos h, calcW_of (r := .error 2) (by rw [calcV_rem, if_pos h])]; rfl
 rw [if_neg h, calcW_fit (by rw [calcV_rem, if_neg h])]
def CalcSays (s : ByteArray) (a b : Int) (w : World) (r : Rs Wd) : Prop :=
 Calls Tryz.prog 103 #[.string s, .int .i64 a, .int .i64 b] w fun e w' => e = .returned (resV r) /\ Below w.heap.size w w'
theorem zero_box (w : World) : ∀ j, (w.alloc (.cells #[.int .i64 0, .int .i64 0, .string ⟨#[]⟩] 49)).cell? ⟨w.heap.size, j, none⟩ = (#[.int .i64 0, .int .i64 0, .string ⟨#[]⟩] : Array Value)[j]? := fun j => za _ _ _ j
set_option maxHeartbeats 2000000 in
theorem calc_plus (a b : Int) (w : World) (ha : -1099511627776 <= a /\ a <= 1099511627776) (hb : -1099511627776 <= b /\ b <= 1099511627776) : CalcSays sPlus a b w (fitW (a + b)) := by
 unfold CalcSays sPlus
 obtain ⟨n, hn⟩ : ∃ n : Int, a + b = n := ⟨_, rfl⟩
 have hn1 : -9223372036854775808 <= n /\ n <= 9223372036854775807 := by omega
 rw [hn]
 have HW := Lib.hid ((Below.refl w.heap.size w).alloc (Nat.le_refl _) (.cells #[.int .i64 0, .int .i64 0, .string ⟨#[]⟩] 49))
 have HI := Lib.hid (fun W => in_any (n) (-1099511627776) 1099511627776 W)
 by_cases hr : n < -big \/ big < n
 ·
  have HB := Lib.hid (inB_no (a := n) (b := -1099511627776) (c := 1099511627776) hr)
  unfold fitW
  rw [if_pos hr]
  clear hr
  go_enter Tryz.func103, Tryz.ntmps103
  go_wp2_with fail
  refine (HI.out _).mono ?_
  rintro e w1 ⟨rfl, rfl⟩
  rw [HB.out]
  go_wp2_with fail
  refine bodyPost_ret (v := .tuple #[.agg #[.int .i64 0, .int .i64 0, .string ⟨#[]⟩], .int .i64 2]) (by simp [results, Tryz.results103, go_sem]) rfl ?_
  exact ⟨rfl, HW.out⟩
 have HB := Lib.hid (inB_yes (a := n) (b := -1099511627776) (c := 1099511627776) ⟨by unfold big at hr; omega, by unfold big at hr; omega⟩)
 have HN := Lib.hid (asInt_any (n))
 unfold fitW
 rw [if_neg hr]
 clear hr
 go_enter Tryz.func103, Tryz.ntmps103
 go_wp2_with fail
 refine (HI.out _).mono ?_
 rintro e w1 ⟨rfl, rfl⟩
 rw [HB.out]
 go_wp2_with fail
 refine (HN.out _).mono ?_
 rintro e w1 ⟨rfl, hb⟩
 have n0 := (hb.cell (p := ⟨w.heap.size, 0, none⟩) (by simp)).trans (zero_box w 0)
 have n1 := (hb.cell (p := ⟨w.heap.size, 1, none⟩) (by simp)).trans (zero_box w 1)
 have n2 := (hb.cell (p := ⟨w.heap.size, 2, none⟩) (by simp)).trans (zero_box w 2)
 have f0 : w1.frozen? ⟨w.heap.size, 0, none⟩ = false := (hb.frozen (p := ⟨w.heap.size, 0, none⟩) (by simp)).trans (ze _ _ _ _)
 have f1 : w1.frozen? ⟨w.heap.size, 1, none⟩ = false := (hb.frozen (p := ⟨w.heap.size, 1, none⟩) (by simp)).trans (ze _ _ _ _)
 have f2 : w1.frozen? ⟨w.heap.size, 2, none⟩ = false := (hb.frozen (p := ⟨w.heap.size, 2, none⟩) (by simp)).trans (ze _ _ _ _)
 simp only [List.getElem?_toArray, List.getElem?_cons_zero, List.getElem?_cons_succ] at n0 n1 n2
 have HB1 := Lib.hid (HW.out.trans (hb.mono HW.out.size))
 have S0 := Lib.hid (set3_0 (u0 := .int .i64 1) (u1 := .int .i64 (n)) (u2 := .string ⟨#[]⟩) n0)
 have S1 := Lib.hid (set3_1 (u0 := .int .i64 1) (u1 := .int .i64 (n)) (u2 := .string ⟨#[]⟩) n1)
 have S2 := Lib.hid (set3_2 (u0 := .int .i64 1) (u1 := .int .i64 (n)) (u2 := .string ⟨#[]⟩) n2)
 clear hb
 go_wp2_with fail
 have s0 := S0.out
 have s1 := S1.out
 have s2 := S2.out
 refine bodyPost_ret (v := .tuple #[.agg #[.int .i64 1, .int .i64 (n), .string ⟨#[]⟩], .int .i64 0]) (by simp [results, Tryz.results103, go_sem, s0, s1, s2]) rfl ?_
 exact ⟨rfl, zp HB1.out (Nat.le_refl _) (grown_set3 _ _ _ _ _)⟩
set_option maxHeartbeats 2000000 in
theorem calc_minus (a b : Int) (w : World) (ha : -1099511627776 <= a /\ a <= 1099511627776) (hb : -1099511627776 <= b /\ b <= 1099511627776) : CalcSays sMinus a b w (fitW (a - b)) := by
 unfold CalcSays sMinus
 obtain ⟨n, hn⟩ : ∃ n : Int, a - b = n := ⟨_, rfl⟩
 have hn1 : -9223372036854775808 <= n /\ n <= 9223372036854775807 := by omega
 rw [hn]
 have HW := Lib.hid ((Below.refl w.heap.size w).alloc (Nat.le_refl _) (.cells #[.int .i64 0, .int .i64 0, .string ⟨#[]⟩] 49))
 have HI := Lib.hid (fun W => in_any (n) (-1099511627776) 1099511627776 W)
 by_cases hr : n < -big \/ big < n
 ·
  have HB := Lib.hid (inB_no (a := n) (b := -1099511627776) (c := 1099511627776) hr)
  unfold fitW
  rw [if_pos hr]
  clear hr
  go_enter Tryz.func103, Tryz.ntmps103
  go_wp2_with fail
  refine (HI.out _).mono ?_
  rintro e w1 ⟨rfl, rfl⟩
  rw [HB.out]
  go_wp2_with fail
  refine bodyPost_ret (v := .tuple #[.agg #[.int .i64 0, .int .i64 0, .string ⟨#[]⟩], .int .i64 2]) (by simp [results, Tryz.results103, go_sem]) rfl ?_
  exact ⟨rfl, HW.out⟩
 have HB := Lib.hid (inB_yes (a := n) (b := -1099511627776) (c := 1099511627776) ⟨by unfold big at hr; omega, by unfold big at hr; omega⟩)
 have HN := Lib.hid (asInt_any (n))
 unfold fitW
 rw [if_neg hr]
 clear hr
 go_enter Tryz.func103, Tryz.ntmps103
 go_wp2_with fail
 refine (HI.out _).mono ?_
 rintro e w1 ⟨rfl, rfl⟩
 rw [HB.out]
 go_wp2_with fail
 refine (HN.out _).mono ?_
 rintro e w1 ⟨rfl, hb⟩
 have n0 := (hb.cell (p := ⟨w.heap.size, 0, none⟩) (by simp)).trans (zero_box w 0)
 have n1 := (hb.cell (p := ⟨w.heap.size, 1, none⟩) (by simp)).trans (zero_box w 1)
 have n2 := (hb.cell (p := ⟨w.heap.size, 2, none⟩) (by simp)).trans (zero_box w 2)
 have f0 : w1.frozen? ⟨w.heap.size, 0, none⟩ = false := (hb.frozen (p := ⟨w.heap.size, 0, none⟩) (by simp)).trans (ze _ _ _ _)
 have f1 : w1.frozen? ⟨w.heap.size, 1, none⟩ = false := (hb.frozen (p := ⟨w.heap.size, 1, none⟩) (by simp)).trans (ze _ _ _ _)
 have f2 : w1.frozen? ⟨w.heap.size, 2, none⟩ = false := (hb.frozen (p := ⟨w.heap.size, 2, none⟩) (by simp)).trans (ze _ _ _ _)
 simp only [List.getElem?_toArray, List.getElem?_cons_zero, List.getElem?_cons_succ] at n0 n1 n2
 have HB1 := Lib.hid (HW.out.trans (hb.mono HW.out.size))
 have S0 := Lib.hid (set3_0 (u0 := .int .i64 1) (u1 := .int .i64 (n)) (u2 := .string ⟨#[]⟩) n0)
 have S1 := Lib.hid (set3_1 (u0 := .int .i64 1) (u1 := .int .i64 (n)) (u2 := .string ⟨#[]⟩) n1)
 have S2 := Lib.hid (set3_2 (u0 := .int .i64 1) (u1 := .int .i64 (n)) (u2 := .string ⟨#[]⟩) n2)
 clear hb
 go_wp2_with fail
 have s0 := S0.out
 have s1 := S1.out
 have s2 := S2.out
 refine bodyPost_ret (v := .tuple #[.agg #[.int .i64 1, .int .i64 (n), .string ⟨#[]⟩], .int .i64 0]) (by simp [results, Tryz.results103, go_sem, s0, s1, s2]) rfl ?_
 exact ⟨rfl, zp HB1.out (Nat.le_refl _) (grown_set3 _ _ _ _ _)⟩
set_option maxHeartbeats 2000000 in
theorem calc_eq (a b : Int) (w : World)  : CalcSays sEq a b w (.ok (boolW (a == b))) := by
 unfold CalcSays sEq
 have HW := Lib.hid ((Below.refl w.heap.size w).alloc (Nat.le_refl _) (.cells #[.int .i64 0, .int .i64 0, .string ⟨#[]⟩] 49))
 cases hz : (a == b)
 ·
  have HN := Lib.hid (asBool_any false)
  go_enter Tryz.func103, Tryz.ntmps103
  go_wp2_with fail
  refine (HN.out _).mono ?_
  rintro e w1 ⟨rfl, hb⟩
  have n0 := (hb.cell (p := ⟨w.heap.size, 0, none⟩) (by simp)).trans (zero_box w 0)
  have n1 := (hb.cell (p := ⟨w.heap.size, 1, none⟩) (by simp)).trans (zero_box w 1)
  have n2 := (hb.cell (p := ⟨w.heap.size, 2, none⟩) (by simp)).trans (zero_box w 2)
  have f0 : w1.frozen? ⟨w.heap.size, 0, none⟩ = false := (hb.frozen (p := ⟨w.heap.size, 0, none⟩) (by simp)).trans (ze _ _ _ _)
  have f1 : w1.frozen? ⟨w.heap.size, 1, none⟩ = false := (hb.frozen (p := ⟨w.heap.size, 1, none⟩) (by simp)).trans (ze _ _ _ _)
  have f2 : w1.frozen? ⟨w.heap.size, 2, none⟩ = false := (hb.frozen (p := ⟨w.heap.size, 2, none⟩) (by simp)).trans (ze _ _ _ _)
  simp only [List.getElem?_toArray, List.getElem?_cons_zero, List.getElem?_cons_succ] at n0 n1 n2
  have HB1 := Lib.hid (HW.out.trans (hb.mono HW.out.size))
  have S0 := Lib.hid (set3_0 (u0 := .int .i64 2) (u1 := .int .i64 0) (u2 := .string ⟨#[]⟩) n0)
  have S1 := Lib.hid (set3_1 (u0 := .int .i64 2) (u1 := .int .i64 0) (u2 := .string ⟨#[]⟩) n1)
  have S2 := Lib.hid (set3_2 (u0 := .int .i64 2) (u1 := .int .i64 0) (u2 := .string ⟨#[]⟩) n2)
  rw [show (boolW false).agg = .agg #[.int .i64 2, .int .i64 0, .string ⟨#[]⟩] from rfl]
  clear hb
  go_wp2_with fail
  have s0 := S0.out
  have s1 := S1.out
  have s2 := S2.out
  refine bodyPost_ret (v := .tuple #[.agg #[.int .i64 2, .int .i64 0, .string ⟨#[]⟩], .int .i64 0]) (by simp [results, Tryz.results103, go_sem, s0, s1, s2]) rfl ?_
  exact ⟨rfl, zp HB1.out (Nat.le_refl _) (grown_set3 _ _ _ _ _)⟩
 have HN := Lib.hid (asBool_any true)
 go_enter Tryz.func103, Tryz.ntmps103
 go_wp2_with fail
 refine (HN.out _).mono ?_
 rintro e w1 ⟨rfl, hb⟩
 have n0 := (hb.cell (p := ⟨w.heap.size, 0, none⟩) (by simp)).trans (zero_box w 0)
 have n1 := (hb.cell (p := ⟨w.heap.size, 1, none⟩) (by simp)).trans (zero_box w 1)
 have n2 := (hb.cell (p := ⟨w.heap.size, 2, none⟩) (by simp)).trans (zero_box w 2)
 have f0 : w1.frozen? ⟨w.heap.size, 0, none⟩ = false := (hb.frozen (p := ⟨w.heap.size, 0, none⟩) (by simp)).trans (ze _ _ _ _)
 have f1 : w1.frozen? ⟨w.heap.size, 1, none⟩ = false := (hb.frozen (p := ⟨w.heap.size, 1, none⟩) (by simp)).trans (ze _ _ _ _)
 have f2 : w1.frozen? ⟨w.heap.size, 2, none⟩ = false := (hb.frozen (p := ⟨w.heap.size, 2, none⟩) (by simp)).trans (ze _ _ _ _)
 simp only [List.getElem?_toArray, List.getElem?_cons_zero, List.getElem?_cons_succ] at n0 n1 n2
 have HB1 := Lib.hid (HW.out.trans (hb.mono HW.out.size))
 have S0 := Lib.hid (set3_0 (u0 := .int .i64 2) (u1 := .int .i64 1) (u2 := .string ⟨#[]⟩) n0)
 have S1 := Lib.hid (set3_1 (u0 := .int .i64 2) (u1 := .int .i64 1) (u2 := .string ⟨#[]⟩) n1)
 have S2 := Lib.hid (set3_2 (u0 := .int .i64 2) (u1 := .int .i64 1) (u2 := .string ⟨#[]⟩) n2)
 rw [show (boolW true).agg = .agg #[.int .i64 2, .int .i64 1, .string ⟨#[]⟩] from rfl]
 clear hb
 go_wp2_with fail
 have s0 := S0.out
 have s1 := S1.out
 have s2 := S2.out
 refine bodyPost_ret (v := .tuple #[.agg #[.int .i64 2, .int .i64 1, .string ⟨#[]⟩], .int .i64 0]) (by simp [results, Tryz.results103, go_sem, s0, s1, s2]) rfl ?_
 exact ⟨rfl, zp HB1.out (Nat.le_refl _) (grown_set3 _ _ _ _ _)⟩
set_option maxHeartbeats 2000000 in
theorem calc_lt (a b : Int) (w : World)  : CalcSays sLt a b w (.ok (boolW (decide (a < b)))) := by
 unfold CalcSays sLt
 have HW := Lib.hid ((Below.refl w.heap.size w).alloc (Nat.le_refl _) (.cells #[.int .i64 0, .int .i64 0, .string ⟨#[]⟩] 49))
 cases hz : (decide (a < b))
 ·
  have HN := Lib.hid (asBool_any false)
  go_enter Tryz.func103, Tryz.ntmps103
  go_wp2_with fail
  refine (HN.out _).mono ?_
  rintro e w1 ⟨rfl, hb⟩
  have n0 := (hb.cell (p := ⟨w.heap.size, 0, none⟩) (by simp)).trans (zero_box w 0)
  have n1 := (hb.cell (p := ⟨w.heap.size, 1, none⟩) (by simp)).trans (zero_box w 1)
  have n2 := (hb.cell (p := ⟨w.heap.size, 2, none⟩) (by simp)).trans (zero_box w 2)
  have f0 : w1.frozen? ⟨w.heap.size, 0, none⟩ = false := (hb.frozen (p := ⟨w.heap.size, 0, none⟩) (by simp)).trans (ze _ _ _ _)
  have f1 : w1.frozen? ⟨w.heap.size, 1, none⟩ = false := (hb.frozen (p := ⟨w.heap.size, 1, none⟩) (by simp)).trans (ze _ _ _ _)
  have f2 : w1.frozen? ⟨w.heap.size, 2, none⟩ = false := (hb.frozen (p := ⟨w.heap.size, 2, none⟩) (by simp)).trans (ze _ _ _ _)
  simp only [List.getElem?_toArray, List.getElem?_cons_zero, List.getElem?_cons_succ] at n0 n1 n2
  have HB1 := Lib.hid (HW.out.trans (hb.mono HW.out.size))
  have S0 := Lib.hid (set3_0 (u0 := .int .i64 2) (u1 := .int .i64 0) (u2 := .string ⟨#[]⟩) n0)
  have S1 := Lib.hid (set3_1 (u0 := .int .i64 2) (u1 := .int .i64 0) (u2 := .string ⟨#[]⟩) n1)
  have S2 := Lib.hid (set3_2 (u0 := .int .i64 2) (u1 := .int .i64 0) (u2 := .string ⟨#[]⟩) n2)
  rw [show (boolW false).agg = .agg #[.int .i64 2, .int .i64 0, .string ⟨#[]⟩] from rfl]
  clear hb
  go_wp2_with fail
  have s0 := S0.out
  have s1 := S1.out
  have s2 := S2.out
  refine bodyPost_ret (v := .tuple #[.agg #[.int .i64 2, .int .i64 0, .string ⟨#[]⟩], .int .i64 0]) (by simp [results, Tryz.results103, go_sem, s0, s1, s2]) rfl ?_
  exact ⟨rfl, zp HB1.out (Nat.le_refl _) (grown_set3 _ _ _ _ _)⟩
 have HN := Lib.hid (asBool_any true)
 go_enter Tryz.func103, Tryz.ntmps103
 go_wp2_with fail
 refine (HN.out _).mono ?_
 rintro e w1 ⟨rfl, hb⟩
 have n0 := (hb.cell (p := ⟨w.heap.size, 0, none⟩) (by simp)).trans (zero_box w 0)
 have n1 := (hb.cell (p := ⟨w.heap.size, 1, none⟩) (by simp)).trans (zero_box w 1)
 have n2 := (hb.cell (p := ⟨w.heap.size, 2, none⟩) (by simp)).trans (zero_box w 2)
 have f0 : w1.frozen? ⟨w.heap.size, 0, none⟩ = false := (hb.frozen (p := ⟨w.heap.size, 0, none⟩) (by simp)).trans (ze _ _ _ _)
 have f1 : w1.frozen? ⟨w.heap.size, 1, none⟩ = false := (hb.frozen (p := ⟨w.heap.size, 1, none⟩) (by simp)).trans (ze _ _ _ _)
 have f2 : w1.frozen? ⟨w.heap.size, 2, none⟩ = false := (hb.frozen (p := ⟨w.heap.size, 2, none⟩) (by simp)).trans (ze _ _ _ _)
 simp only [List.getElem?_toArray, List.getElem?_cons_zero, List.getElem?_cons_succ] at n0 n1 n2
 have HB1 := Lib.hid (HW.out.trans (hb.mono HW.out.size))
 have S0 := Lib.hid (set3_0 (u0 := .int .i64 2) (u1 := .int .i64 1) (u2 := .string ⟨#[]⟩) n0)
 have S1 := Lib.hid (set3_1 (u0 := .int .i64 2) (u1 := .int .i64 1) (u2 := .string ⟨#[]⟩) n1)
 have S2 := Lib.hid (set3_2 (u0 := .int .i64 2) (u1 := .int .i64 1) (u2 := .string ⟨#[]⟩) n2)
 rw [show (boolW true).agg = .agg #[.int .i64 2, .int .i64 1, .string ⟨#[]⟩] from rfl]
 clear hb
 go_wp2_with fail
 have s0 := S0.out
 have s1 := S1.out
 have s2 := S2.out
 refine bodyPost_ret (v := .tuple #[.agg #[.int .i64 2, .int .i64 1, .string ⟨#[]⟩], .int .i64 0]) (by simp [results, Tryz.results103, go_sem, s0, s1, s2]) rfl ?_
 exact ⟨rfl, zp HB1.out (Nat.le_refl _) (grown_set3 _ _ _ _ _)⟩
theorem tdiv_le (a b : Int) : (a.tdiv b).natAbs <= a.natAbs := by
 rw [Int.natAbs_tdiv]
 exact Nat.div_le_self _ _
theorem tdiv_mul_le (a b : Int) : (a.tdiv b * b).natAbs <= a.natAbs := by
 rw [Int.natAbs_mul, Int.natAbs_tdiv]
 exact Nat.div_mul_le_self _ _
set_option maxHeartbeats 2000000 in
theorem calc_quot (a b : Int) (w : World) (ha : -1099511627776 <= a /\ a <= 1099511627776) (hb : -1099511627776 <= b /\ b <= 1099511627776) : CalcSays sQuot a b w (if b = 0 then .error 2 else fitW (a.tdiv b)) := by
 unfold CalcSays sQuot
 by_cases h0 : b = 0
 ·
  subst h0
  rw [if_pos rfl]
  have HW := Lib.hid ((Below.refl w.heap.size w).alloc (Nat.le_refl _) (.cells #[.int .i64 0, .int .i64 0, .string ⟨#[]⟩] 49))
  go_enter Tryz.func103, Tryz.ntmps103
  go_wp2_with fail
  refine bodyPost_ret (v := .tuple #[.agg #[.int .i64 0, .int .i64 0, .string ⟨#[]⟩], .int .i64 2]) (by simp [results, Tryz.results103, go_sem]) rfl ?_
  exact ⟨rfl, HW.out⟩
 rw [if_neg h0]
 have hd := tdiv_le a b
 obtain ⟨n, hn⟩ : ∃ n : Int, a.tdiv b = n := ⟨_, rfl⟩
 rw [hn] at hd ⊢
 have hn1 : -9223372036854775808 <= n /\ n <= 9223372036854775807 := by omega
 clear hd
 have HW := Lib.hid ((Below.refl w.heap.size w).alloc (Nat.le_refl _) (.cells #[.int .i64 0, .int .i64 0, .string ⟨#[]⟩] 49))
 have HI := Lib.hid (fun W => in_any (n) (-1099511627776) 1099511627776 W)
 by_cases hr : n < -big \/ big < n
 ·
  have HB := Lib.hid (inB_no (a := n) (b := -1099511627776) (c := 1099511627776) hr)
  unfold fitW
  rw [if_pos hr]
  clear hr
  go_enter Tryz.func103, Tryz.ntmps103
  go_wp2_with fail
  refine (HI.out _).mono ?_
  rintro e w1 ⟨rfl, rfl⟩
  rw [HB.out]
  go_wp2_with fail
  refine bodyPost_ret (v := .tuple #[.agg #[.int .i64 0, .int .i64 0, .string ⟨#[]⟩], .int .i64 2]) (by simp [results, Tryz.results103, go_sem]) rfl ?_
  exact ⟨rfl, HW.out⟩
 have HB := Lib.hid (inB_yes (a := n) (b := -1099511627776) (c := 1099511627776) ⟨by unfold big at hr; omega, by unfold big at hr; omega⟩)
 have HN := Lib.hid (asInt_any (n))
 unfold fitW
 rw [if_neg hr]
 clear hr
 go_enter Tryz.func103, Tryz.ntmps103
 go_wp2_with fail
 refine (HI.out _).mono ?_
 rintro e w1 ⟨rfl, rfl⟩
 rw [HB.out]
 go_wp2_with fail
 refine (HN.out _).mono ?_
 rintro e w1 ⟨rfl, hb⟩
 have n0 := (hb.cell (p := ⟨w.heap.size, 0, none⟩) (by simp)).trans (zero_box w 0)
 have n1 := (hb.cell (p := ⟨w.heap.size, 1, none⟩) (by simp)).trans (zero_box w 1)
 have n2 := (hb.cell (p := ⟨w.heap.size, 2, none⟩) (by simp)).trans (zero_box w 2)
 have f0 : w1.frozen? ⟨w.heap.size, 0, none⟩ = false := (hb.frozen (p := ⟨w.heap.size, 0, none⟩) (by simp)).trans (ze _ _ _ _)
 have f1 : w1.frozen? ⟨w.heap.size, 1, none⟩ = false := (hb.frozen (p := ⟨w.heap.size, 1, none⟩) (by simp)).trans (ze _ _ _ _)
 have f2 : w1.frozen? ⟨w.heap.size, 2, none⟩ = false := (hb.frozen (p := ⟨w.heap.size, 2, none⟩) (by simp)).trans (ze _ _ _ _)
 simp only [List.getElem?_toArray, List.getElem?_cons_zero, List.getElem?_cons_succ] at n0 n1 n2
 have HB1 := Lib.hid (HW.out.trans (hb.mono HW.out.size))
 have S0 := Lib.hid (set3_0 (u0 := .int .i64 1) (u1 := .int .i64 (n)) (u2 := .string ⟨#[]⟩) n0)
 have S1 := Lib.hid (set3_1 (u0 := .int .i64 1) (u1 := .int .i64 (n)) (u2 := .string ⟨#[]⟩) n1)
 have S2 := Lib.hid (set3_2 (u0 := .int .i64 1) (u1 := .int .i64 (n)) (u2 := .string ⟨#[]⟩) n2)
 clear hb
 go_wp2_with fail
 have s0 := S0.out
 have s1 := S1.out
 have s2 := S2.out
 refine bodyPost_ret (v := .tuple #[.agg #[.int .i64 1, .int .i64 (n), .string ⟨#[]⟩], .int .i64 0]) (by simp [results, Tryz.results103, go_sem, s0, s1, s2]) rfl ?_
 exact ⟨rfl, zp HB1.out (Nat.le_refl _) (grown_set3 _ _ _ _ _)⟩
set_option maxHeartbeats 2000000 in
theorem calc_rem (a b : Int) (w : World) (ha : -1099511627776 <= a /\ a <= 1099511627776) (hb : -1099511627776 <= b /\ b <= 1099511627776) : CalcSays sRem a b w (if b = 0 then .error 2 else fitW (a - (a.tdiv b) * b)) := by
 unfold CalcSays sRem
 by_cases h0 : b = 0
 ·
  subst h0
  rw [if_pos rfl]
  have HW := Lib.hid ((Below.refl w.heap.size w).alloc (Nat.le_refl _) (.cells #[.int .i64 0, .int .i64 0, .string ⟨#[]⟩] 49))
  go_enter Tryz.func103, Tryz.ntmps103
  go_wp2_with fail
  refine bodyPost_ret (v := .tuple #[.agg #[.int .i64 0, .int .i64 0, .string ⟨#[]⟩], .int .i64 2]) (by simp [results, Tryz.results103, go_sem]) rfl ?_
  exact ⟨rfl, HW.out⟩
 rw [if_neg h0]
 have hd := tdiv_le a b
 have hm := tdiv_mul_le a b
 obtain ⟨q, hq⟩ : ∃ q : Int, a.tdiv b = q := ⟨_, rfl⟩
 rw [hq] at hd hm ⊢
 obtain ⟨p, hp⟩ : ∃ p : Int, q * b = p := ⟨_, rfl⟩
 rw [hp] at hm ⊢
 obtain ⟨n, hn⟩ : ∃ n : Int, a - p = n := ⟨_, rfl⟩
 rw [hn]
 have hn1 : -9223372036854775808 <= n /\ n <= 9223372036854775807 := by omega
 have hq1 : -9223372036854775808 <= q /\ q <= 9223372036854775807 := by omega
 have hp1 : -9223372036854775808 <= p /\ p <= 9223372036854775807 := by omega
 clear hd hm
 have HW := Lib.hid ((Below.refl w.heap.size w).alloc (Nat.le_refl _) (.cells #[.int .i64 0, .int .i64 0, .string ⟨#[]⟩] 49))
 have HI := Lib.hid (fun W => in_any (n) (-1099511627776) 1099511627776 W)
 by_cases hr : n < -big \/ big < n
 ·
  have HB := Lib.hid (inB_no (a := n) (b := -1099511627776) (c := 1099511627776) hr)
  unfold fitW
  rw [if_pos hr]
  clear hr
  go_enter Tryz.func103, Tryz.ntmps103
  go_wp2_with fail
  refine (HI.out _).mono ?_
  rintro e w1 ⟨rfl, rfl⟩
  rw [HB.out]
  go_wp2_with fail
  refine bodyPost_ret (v := .tuple #[.agg #[.int .i64 0, .int .i64 0, .string ⟨#[]⟩], .int .i64 2]) (by simp [results, Tryz.results103, go_sem]) rfl ?_
  exact ⟨rfl, HW.out⟩
 have HB := Lib.hid (inB_yes (a := n) (b := -1099511627776) (c := 1099511627776) ⟨by unfold big at hr; omega, by unfold big at hr; omega⟩)
 have HN := Lib.hid (asInt_any (n))
 unfold fitW
 rw [if_neg hr]
 clear hr
 go_enter Tryz.func103, Tryz.ntmps103
 go_wp2_with fail
 refine (HI.out _).mono ?_
 rintro e w1 ⟨rfl, rfl⟩
 rw [HB.out]
 go_wp2_with fail
 refine (HN.out _).mono ?_
 rintro e w1 ⟨rfl, hb⟩
 have n0 := (hb.cell (p := ⟨w.heap.size, 0, none⟩) (by simp)).trans (zero_box w 0)
 have n1 := (hb.cell (p := ⟨w.heap.size, 1, none⟩) (by simp)).trans (zero_box w 1)
 have n2 := (hb.cell (p := ⟨w.heap.size, 2, none⟩) (by simp)).trans (zero_box w 2)
 have f0 : w1.frozen? ⟨w.heap.size, 0, none⟩ = false := (hb.frozen (p := ⟨w.heap.size, 0, none⟩) (by simp)).trans (ze _ _ _ _)
 have f1 : w1.frozen? ⟨w.heap.size, 1, none⟩ = false := (hb.frozen (p := ⟨w.heap.size, 1, none⟩) (by simp)).trans (ze _ _ _ _)
 have f2 : w1.frozen? ⟨w.heap.size, 2, none⟩ = false := (hb.frozen (p := ⟨w.heap.size, 2, none⟩) (by simp)).trans (ze _ _ _ _)
 simp only [List.getElem?_toArray, List.getElem?_cons_zero, List.getElem?_cons_succ] at n0 n1 n2
 have HB1 := Lib.hid (HW.out.trans (hb.mono HW.out.size))
 have S0 := Lib.hid (set3_0 (u0 := .int .i64 1) (u1 := .int .i64 (n)) (u2 := .string ⟨#[]⟩) n0)
 have S1 := Lib.hid (set3_1 (u0 := .int .i64 1) (u1 := .int .i64 (n)) (u2 := .string ⟨#[]⟩) n1)
 have S2 := Lib.hid (set3_2 (u0 := .int .i64 1) (u1 := .int .i64 (n)) (u2 := .string ⟨#[]⟩) n2)
 clear hb
 go_wp2_with fail
 have s0 := S0.out
 have s1 := S1.out
 have s2 := S2.out
 refine bodyPost_ret (v := .tuple #[.agg #[.int .i64 1, .int .i64 (n), .string ⟨#[]⟩], .int .i64 0]) (by simp [results, Tryz.results103, go_sem, s0, s1, s2]) rfl ?_
 exact ⟨rfl, zp HB1.out (Nat.le_refl _) (grown_set3 _ _ _ _ _)⟩
set_option maxHeartbeats 2000000 in
theorem calc_times (a b : Int) (w : World) (ha : -1099511627776 <= a /\ a <= 1099511627776) (hb : -1099511627776 <= b /\ b <= 1099511627776) : CalcSays sTimes a b w (if 0 < b.natAbs /\ big.toNat / b.natAbs < a.natAbs then .error 2 else fitW (a * b)) := by
 unfold CalcSays sTimes
 have hkey : ∀ P Q : Nat, a.natAbs = P -> b.natAbs = Q -> ¬ (0 < Q /\ 1099511627776 / Q < P) -> (a * b).natAbs <= 1099511627776 := by
  intro P Q hP hQ hc
  rw [Int.natAbs_mul, hP, hQ]
  rcases Nat.eq_zero_or_pos Q with h | h
  ·
   rw [h]; omega
  have h1 : P <= 1099511627776 / Q := by
   rcases Nat.lt_or_ge (1099511627776 / Q) P with h2 | h2
   ·
    exact absurd ⟨h, h2⟩ hc
   exact h2
  exact Nat.le_trans (Nat.mul_le_mul_right Q h1) (Nat.div_mul_le_self _ _)
 have hbig : big.toNat = 1099511627776 := rfl
 rw [hbig]
 obtain ⟨P, hP⟩ : ∃ P : Nat, a.natAbs = P := ⟨_, rfl⟩
 obtain ⟨Q, hQ⟩ : ∃ Q : Nat, b.natAbs = Q := ⟨_, rfl⟩
 rw [hP, hQ]
 have hk := hkey P Q hP hQ
 obtain ⟨PI, hPI⟩ : ∃ PI : Int, (P : Int) = PI := ⟨_, rfl⟩
 obtain ⟨QI, hQI⟩ : ∃ QI : Int, (Q : Int) = QI := ⟨_, rfl⟩
 have hD : (1099511627776 : Int).tdiv QI = ((1099511627776 / Q : Nat) : Int) := by rw [<- hQI]; rfl
 have hDl := Nat.div_le_self 1099511627776 Q
 obtain ⟨Dn, hDn⟩ : ∃ Dn : Nat, 1099511627776 / Q = Dn := ⟨_, rfl⟩
 rw [hDn] at hD hDl hk ⊢
 obtain ⟨D, hDD⟩ : ∃ D : Int, (Dn : Int) = D := ⟨_, rfl⟩
 rw [hDD] at hD
 have hDb : 0 <= D /\ D <= 1099511627776 := by omega
 have hPb : 0 <= PI /\ PI <= 1099511627776 := by omega
 have hQb : 0 <= QI /\ QI <= 1099511627776 := by omega
 by_cases hc : 0 < Q /\ Dn < P
 ·
  rw [if_pos hc]
  have hc1 : 0 < QI := by omega
  have hc2 : D < PI := by omega
  have hq0 : ¬ QI = 0 := by omega
  clear hkey hk hc hDD hDn hDl
  have hs4 : (¬ a < 0 /\ ¬ b < 0) \/ (¬ a < 0 /\ b < 0) \/ (a < 0 /\ ¬ b < 0) \/ (a < 0 /\ b < 0) := by omega
  rcases hs4 with hs | hs | hs | hs
  ·
   have hA : ¬ a < 0 := hs.1
   have hB : ¬ b < 0 := hs.2
   have hA2 : a = PI := by omega
   have hB2 : b = QI := by omega
   subst hA2
   subst hB2
   clear hs hP hQ hPI hQI
   have HW := Lib.hid ((Below.refl w.heap.size w).alloc (Nat.le_refl _) (.cells #[.int .i64 0, .int .i64 0, .string ⟨#[]⟩] 49))
   go_enter Tryz.func103, Tryz.ntmps103
   go_wp2_with fail
   refine bodyPost_ret (v := .tuple #[.agg #[.int .i64 0, .int .i64 0, .string ⟨#[]⟩], .int .i64 2]) (by simp [results, Tryz.results103, go_sem]) rfl ?_
   exact ⟨rfl, HW.out⟩
  ·
   have hA : ¬ a < 0 := hs.1
   have hB : b < 0 := hs.2
   have hA2 : a = PI := by omega
   have hB2 : -b = QI := by omega
   subst hA2
   clear hs hP hQ hPI hQI
   have HW := Lib.hid ((Below.refl w.heap.size w).alloc (Nat.le_refl _) (.cells #[.int .i64 0, .int .i64 0, .string ⟨#[]⟩] 49))
   go_enter Tryz.func103, Tryz.ntmps103
   go_wp2_with fail
   refine bodyPost_ret (v := .tuple #[.agg #[.int .i64 0, .int .i64 0, .string ⟨#[]⟩], .int .i64 2]) (by simp [results, Tryz.results103, go_sem]) rfl ?_
   exact ⟨rfl, HW.out⟩
  ·
   have hA : a < 0 := hs.1
   have hB : ¬ b < 0 := hs.2
   have hA2 : -a = PI := by omega
   have hB2 : b = QI := by omega
   subst hB2
   clear hs hP hQ hPI hQI
   have HW := Lib.hid ((Below.refl w.heap.size w).alloc (Nat.le_refl _) (.cells #[.int .i64 0, .int .i64 0, .string ⟨#[]⟩] 49))
   go_enter Tryz.func103, Tryz.ntmps103
   go_wp2_with fail
   refine bodyPost_ret (v := .tuple #[.agg #[.int .i64 0, .int .i64 0, .string ⟨#[]⟩], .int .i64 2]) (by simp [results, Tryz.results103, go_sem]) rfl ?_
   exact ⟨rfl, HW.out⟩
  have hA : a < 0 := hs.1
  have hB : b < 0 := hs.2
  have hA2 : -a = PI := by omega
  have hB2 : -b = QI := by omega
  clear hs hP hQ hPI hQI
  have HW := Lib.hid ((Below.refl w.heap.size w).alloc (Nat.le_refl _) (.cells #[.int .i64 0, .int .i64 0, .string ⟨#[]⟩] 49))
  go_enter Tryz.func103, Tryz.ntmps103
  go_wp2_with fail
  refine bodyPost_ret (v := .tuple #[.agg #[.int .i64 0, .int .i64 0, .string ⟨#[]⟩], .int .i64 2]) (by simp [results, Tryz.results103, go_sem]) rfl ?_
  exact ⟨rfl, HW.out⟩
 rw [if_neg hc]
 have hk2 := hk hc
 obtain ⟨n, hn⟩ : ∃ n : Int, a * b = n := ⟨_, rfl⟩
 rw [hn] at hk2 ⊢
 have hn1 : -9223372036854775808 <= n /\ n <= 9223372036854775807 := by omega
 have hcc : ¬ 0 < QI \/ (0 < QI /\ ¬ QI = 0 /\ ¬ D < PI) := by omega
 clear hkey hk hc hDD hk2 hDn hDl
 rcases hcc with hc1 | ⟨hc1, hq0, hc2⟩
 ·
  have hb0 : b = 0 := by omega
  subst hb0
  have hn0 : n = 0 := by omega
  subst hn0
  have hs2 : ¬ a < 0 \/ a < 0 := by omega
  rcases hs2 with hs | hs
  ·
   have hA : ¬ a < 0 := hs
   have hA2 : a = PI := by omega
   subst hA2
   clear hs hP hQ hPI hQI
   have HW := Lib.hid ((Below.refl w.heap.size w).alloc (Nat.le_refl _) (.cells #[.int .i64 0, .int .i64 0, .string ⟨#[]⟩] 49))
   have HI := Lib.hid (fun W => in_any (0) (-1099511627776) 1099511627776 W)
   have HB := Lib.hid (inB_yes (a := 0) (b := -1099511627776) (c := 1099511627776) ⟨by decide, by decide⟩)
   have HN := Lib.hid (asInt_any (0))
   unfold fitW
   rw [if_neg (by unfold big; omega)]
   go_enter Tryz.func103, Tryz.ntmps103
   go_wp2_with fail
   refine (HI.out _).mono ?_
   rintro e w1 ⟨rfl, rfl⟩
   rw [HB.out]
   go_wp2_with fail
   refine (HN.out _).mono ?_
   rintro e w1 ⟨rfl, hb⟩
   have n0 := (hb.cell (p := ⟨w.heap.size, 0, none⟩) (by simp)).trans (zero_box w 0)
   have n1 := (hb.cell (p := ⟨w.heap.size, 1, none⟩) (by simp)).trans (zero_box w 1)
   have n2 := (hb.cell (p := ⟨w.heap.size, 2, none⟩) (by simp)).trans (zero_box w 2)
   have f0 : w1.frozen? ⟨w.heap.size, 0, none⟩ = false := (hb.frozen (p := ⟨w.heap.size, 0, none⟩) (by simp)).trans (ze _ _ _ _)
   have f1 : w1.frozen? ⟨w.heap.size, 1, none⟩ = false := (hb.frozen (p := ⟨w.heap.size, 1, none⟩) (by simp)).trans (ze _ _ _ _)
   have f2 : w1.frozen? ⟨w.heap.size, 2, none⟩ = false := (hb.frozen (p := ⟨w.heap.size, 2, none⟩) (by simp)).trans (ze _ _ _ _)
   simp only [List.getElem?_toArray, List.getElem?_cons_zero, List.getElem?_cons_succ] at n0 n1 n2
   have HB1 := Lib.hid (HW.out.trans (hb.mono HW.out.size))
   have S0 := Lib.hid (set3_0 (u0 := .int .i64 1) (u1 := .int .i64 (0)) (u2 := .string ⟨#[]⟩) n0)
   have S1 := Lib.hid (set3_1 (u0 := .int .i64 1) (u1 := .int .i64 (0)) (u2 := .string ⟨#[]⟩) n1)
   have S2 := Lib.hid (set3_2 (u0 := .int .i64 1) (u1 := .int .i64 (0)) (u2 := .string ⟨#[]⟩) n2)
   clear hb
   go_wp2_with fail
   have s0 := S0.out
   have s1 := S1.out
   have s2 := S2.out
   refine bodyPost_ret (v := .tuple #[.agg #[.int .i64 1, .int .i64 (0), .string ⟨#[]⟩], .int .i64 0]) (by simp [results, Tryz.results103, go_sem, s0, s1, s2]) rfl ?_
   exact ⟨rfl, zp HB1.out (Nat.le_refl _) (grown_set3 _ _ _ _ _)⟩
  have hA : a < 0 := hs
  have hA2 : -a = PI := by omega
  clear hs hP hQ hPI hQI
  have HW := Lib.hid ((Below.refl w.heap.size w).alloc (Nat.le_refl _) (.cells #[.int .i64 0, .int .i64 0, .string ⟨#[]⟩] 49))
  have HI := Lib.hid (fun W => in_any (0) (-1099511627776) 1099511627776 W)
  have HB := Lib.hid (inB_yes (a := 0) (b := -1099511627776) (c := 1099511627776) ⟨by decide, by decide⟩)
  have HN := Lib.hid (asInt_any (0))
  unfold fitW
  rw [if_neg (by unfold big; omega)]
  go_enter Tryz.func103, Tryz.ntmps103
  go_wp2_with fail
  refine (HI.out _).mono ?_
  rintro e w1 ⟨rfl, rfl⟩
  rw [HB.out]
  go_wp2_with fail
  refine (HN.out _).mono ?_
  rintro e w1 ⟨rfl, hb⟩
  have n0 := (hb.cell (p := ⟨w.heap.size, 0, none⟩) (by simp)).trans (zero_box w 0)
  have n1 := (hb.cell (p := ⟨w.heap.size, 1, none⟩) (by simp)).trans (zero_box w 1)
  have n2 := (hb.cell (p := ⟨w.heap.size, 2, none⟩) (by simp)).trans (zero_box w 2)
  have f0 : w1.frozen? ⟨w.heap.size, 0, none⟩ = false := (hb.frozen (p := ⟨w.heap.size, 0, none⟩) (by simp)).trans (ze _ _ _ _)
  have f1 : w1.frozen? ⟨w.heap.size, 1, none⟩ = false := (hb.frozen (p := ⟨w.heap.size, 1, none⟩) (by simp)).trans (ze _ _ _ _)
  have f2 : w1.frozen? ⟨w.heap.size, 2, none⟩ = false := (hb.frozen (p := ⟨w.heap.size, 2, none⟩) (by simp)).trans (ze _ _ _ _)
  simp only [List.getElem?_toArray, List.getElem?_cons_zero, List.getElem?_cons_succ] at n0 n1 n2
  have HB1 := Lib.hid (HW.out.trans (hb.mono HW.out.size))
  have S0 := Lib.hid (set3_0 (u0 := .int .i64 1) (u1 := .int .i64 (0)) (u2 := .string ⟨#[]⟩) n0)
  have S1 := Lib.hid (set3_1 (u0 := .int .i64 1) (u1 := .int .i64 (0)) (u2 := .string ⟨#[]⟩) n1)
  have S2 := Lib.hid (set3_2 (u0 := .int .i64 1) (u1 := .int .i64 (0)) (u2 := .string ⟨#[]⟩) n2)
  clear hb
  go_wp2_with fail
  have s0 := S0.out
  have s1 := S1.out
  have s2 := S2.out
  refine bodyPost_ret (v := .tuple #[.agg #[.int .i64 1, .int .i64 (0), .string ⟨#[]⟩], .int .i64 0]) (by simp [results, Tryz.results103, go_sem, s0, s1, s2]) rfl ?_
  exact ⟨rfl, zp HB1.out (Nat.le_refl _) (grown_set3 _ _ _ _ _)⟩
 have hs4 : (¬ a < 0 /\ ¬ b < 0) \/ (¬ a < 0 /\ b < 0) \/ (a < 0 /\ ¬ b < 0) \/ (a < 0 /\ b < 0) := by omega
 rcases hs4 with hs | hs | hs | hs
 ·
  have hA : ¬ a < 0 := hs.1
  have hB : ¬ b < 0 := hs.2
  have hA2 : a = PI := by omega
  have hB2 : b = QI := by omega
  subst hA2
  subst hB2
  clear hs hP hQ hPI hQI
  have HW := Lib.hid ((Below.refl w.heap.size w).alloc (Nat.le_refl _) (.cells #[.int .i64 0, .int .i64 0, .string ⟨#[]⟩] 49))
  have HI := Lib.hid (fun W => in_any (n) (-1099511627776) 1099511627776 W)
  by_cases hr : n < -big \/ big < n
  ·
   have HB := Lib.hid (inB_no (a := n) (b := -1099511627776) (c := 1099511627776) hr)
   unfold fitW
   rw [if_pos hr]
   clear hr
   go_enter Tryz.func103, Tryz.ntmps103
   go_wp2_with fail
   refine (HI.out _).mono ?_
   rintro e w1 ⟨rfl, rfl⟩
   rw [HB.out]
   go_wp2_with fail
   refine bodyPost_ret (v := .tuple #[.agg #[.int .i64 0, .int .i64 0, .string ⟨#[]⟩], .int .i64 2]) (by simp [results, Tryz.results103, go_sem]) rfl ?_
   exact ⟨rfl, HW.out⟩
  have HB := Lib.hid (inB_yes (a := n) (b := -1099511627776) (c := 1099511627776) ⟨by unfold big at hr; omega, by unfold big at hr; omega⟩)
  have HN := Lib.hid (asInt_any (n))
  unfold fitW
  rw [if_neg hr]
  clear hr
  go_enter Tryz.func103, Tryz.ntmps103
  go_wp2_with fail
  refine (HI.out _).mono ?_
  rintro e w1 ⟨rfl, rfl⟩
  rw [HB.out]
  go_wp2_with fail
  refine (HN.out _).mono ?_
  rintro e w1 ⟨rfl, hb⟩
  have n0 := (hb.cell (p := ⟨w.heap.size, 0, none⟩) (by simp)).trans (zero_box w 0)
  have n1 := (hb.cell (p := ⟨w.heap.size, 1, none⟩) (by simp)).trans (zero_box w 1)
  have n2 := (hb.cell (p := ⟨w.heap.size, 2, none⟩) (by simp)).trans (zero_box w 2)
  have f0 : w1.frozen? ⟨w.heap.size, 0, none⟩ = false := (hb.frozen (p := ⟨w.heap.size, 0, none⟩) (by simp)).trans (ze _ _ _ _)
  have f1 : w1.frozen? ⟨w.heap.size, 1, none⟩ = false := (hb.frozen (p := ⟨w.heap.size, 1, none⟩) (by simp)).trans (ze _ _ _ _)
  have f2 : w1.frozen? ⟨w.heap.size, 2, none⟩ = false := (hb.frozen (p := ⟨w.heap.size, 2, none⟩) (by simp)).trans (ze _ _ _ _)
  simp only [List.getElem?_toArray, List.getElem?_cons_zero, List.getElem?_cons_succ] at n0 n1 n2
  have HB1 := Lib.hid (HW.out.trans (hb.mono HW.out.size))
  have S0 := Lib.hid (set3_0 (u0 := .int .i64 1) (u1 := .int .i64 (n)) (u2 := .string ⟨#[]⟩) n0)
  have S1 := Lib.hid (set3_1 (u0 := .int .i64 1) (u1 := .int .i64 (n)) (u2 := .string ⟨#[]⟩) n1)
  have S2 := Lib.hid (set3_2 (u0 := .int .i64 1) (u1 := .int .i64 (n)) (u2 := .string ⟨#[]⟩) n2)
  clear hb
  go_wp2_with fail
  have s0 := S0.out
  have s1 := S1.out
  have s2 := S2.out
  refine bodyPost_ret (v := .tuple #[.agg #[.int .i64 1, .int .i64 (n), .string ⟨#[]⟩], .int .i64 0]) (by simp [results, Tryz.results103, go_sem, s0, s1, s2]) rfl ?_
  exact ⟨rfl, zp HB1.out (Nat.le_refl _) (grown_set3 _ _ _ _ _)⟩
 ·
  have hA : ¬ a < 0 := hs.1
  have hB : b < 0 := hs.2
  have hA2 : a = PI := by omega
  have hB2 : -b = QI := by omega
  subst hA2
  clear hs hP hQ hPI hQI
  have HW := Lib.hid ((Below.refl w.heap.size w).alloc (Nat.le_refl _) (.cells #[.int .i64 0, .int .i64 0, .string ⟨#[]⟩] 49))
  have HI := Lib.hid (fun W => in_any (n) (-1099511627776) 1099511627776 W)
  by_cases hr : n < -big \/ big < n
  ·
   have HB := Lib.hid (inB_no (a := n) (b := -1099511627776) (c := 1099511627776) hr)
   unfold fitW
   rw [if_pos hr]
   clear hr
   go_enter Tryz.func103, Tryz.ntmps103
   go_wp2_with fail
   refine (HI.out _).mono ?_
   rintro e w1 ⟨rfl, rfl⟩
   rw [HB.out]
   go_wp2_with fail
   refine bodyPost_ret (v := .tuple #[.agg #[.int .i64 0, .int .i64 0, .string ⟨#[]⟩], .int .i64 2]) (by simp [results, Tryz.results103, go_sem]) rfl ?_
   exact ⟨rfl, HW.out⟩
  have HB := Lib.hid (inB_yes (a := n) (b := -1099511627776) (c := 1099511627776) ⟨by unfold big at hr; omega, by unfold big at hr; omega⟩)
  have HN := Lib.hid (asInt_any (n))
  unfold fitW
  rw [if_neg hr]
  clear hr
  go_enter Tryz.func103, Tryz.ntmps103
  go_wp2_with fail
  refine (HI.out _).mono ?_
  rintro e w1 ⟨rfl, rfl⟩
  rw [HB.out]
  go_wp2_with fail
  refine (HN.out _).mono ?_
  rintro e w1 ⟨rfl, hb⟩
  have n0 := (hb.cell (p := ⟨w.heap.size, 0, none⟩) (by simp)).trans (zero_box w 0)
  have n1 := (hb.cell (p := ⟨w.heap.size, 1, none⟩) (by simp)).trans (zero_box w 1)
  have n2 := (hb.cell (p := ⟨w.heap.size, 2, none⟩) (by simp)).trans (zero_box w 2)
  have f0 : w1.frozen? ⟨w.heap.size, 0, none⟩ = false := (hb.frozen (p := ⟨w.heap.size, 0, none⟩) (by simp)).trans (ze _ _ _ _)
  have f1 : w1.frozen? ⟨w.heap.size, 1, none⟩ = false := (hb.frozen (p := ⟨w.heap.size, 1, none⟩) (by simp)).trans (ze _ _ _ _)
  have f2 : w1.frozen? ⟨w.heap.size, 2, none⟩ = false := (hb.frozen (p := ⟨w.heap.size, 2, none⟩) (by simp)).trans (ze _ _ _ _)
  simp only [List.getElem?_toArray, List.getElem?_cons_zero, List.getElem?_cons_succ] at n0 n1 n2
  have HB1 := Lib.hid (HW.out.trans (hb.mono HW.out.size))
  have S0 := Lib.hid (set3_0 (u0 := .int .i64 1) (u1 := .int .i64 (n)) (u2 := .string ⟨#[]⟩) n0)
  have S1 := Lib.hid (set3_1 (u0 := .int .i64 1) (u1 := .int .i64 (n)) (u2 := .string ⟨#[]⟩) n1)
  have S2 := Lib.hid (set3_2 (u0 := .int .i64 1) (u1 := .int .i64 (n)) (u2 := .string ⟨#[]⟩) n2)
  clear hb
  go_wp2_with fail
  have s0 := S0.out
  have s1 := S1.out
  have s2 := S2.out
  refine bodyPost_ret (v := .tuple #[.agg #[.int .i64 1, .int .i64 (n), .string ⟨#[]⟩], .int .i64 0]) (by simp [results, Tryz.results103, go_sem, s0, s1, s2]) rfl ?_
  exact ⟨rfl, zp HB1.out (Nat.le_refl _) (grown_set3 _ _ _ _ _)⟩
 ·
  have hA : a < 0 := hs.1
  have hB : ¬ b < 0 := hs.2
  have hA2 : -a = PI := by omega
  have hB2 : b = QI := by omega
  subst hB2
  clear hs hP hQ hPI hQI
  have HW := Lib.hid ((Below.refl w.heap.size w).alloc (Nat.le_refl _) (.cells #[.int .i64 0, .int .i64 0, .string ⟨#[]⟩] 49))
  have HI := Lib.hid (fun W => in_any (n) (-1099511627776) 1099511627776 W)
  by_cases hr : n < -big \/ big < n
  ·
   have HB := Lib.hid (inB_no (a := n) (b := -1099511627776) (c := 1099511627776) hr)
   unfold fitW
   rw [if_pos hr]
   clear hr
   go_enter Tryz.func103, Tryz.ntmps103
   go_wp2_with fail
   refine (HI.out _).mono ?_
   rintro e w1 ⟨rfl, rfl⟩
   rw [HB.out]
   go_wp2_with fail
   refine bodyPost_ret (v := .tuple #[.agg #[.int .i64 0, .int .i64 0, .string ⟨#[]⟩], .int .i64 2]) (by simp [results, Tryz.results103, go_sem]) rfl ?_
   exact ⟨rfl, HW.out⟩
  have HB := Lib.hid (inB_yes (a := n) (b := -1099511627776) (c := 1099511627776) ⟨by unfold big at hr; omega, by unfold big at hr; omega⟩)
  have HN := Lib.hid (asInt_any (n))
  unfold fitW
  rw [if_neg hr]
  clear hr
  go_enter Tryz.func103, Tryz.ntmps103
  go_wp2_with fail
  refine (HI.out _).mono ?_
  rintro e w1 ⟨rfl, rfl⟩
  rw [HB.out]
  go_wp2_with fail
  refine (HN.out _).mono ?_
  rintro e w1 ⟨rfl, hb⟩
  have n0 := (hb.cell (p := ⟨w.heap.size, 0, none⟩) (by simp)).trans (zero_box w 0)
  have n1 := (hb.cell (p := ⟨w.heap.size, 1, none⟩) (by simp)).trans (zero_box w 1)
  have n2 := (hb.cell (p := ⟨w.heap.size, 2, none⟩) (by simp)).trans (zero_box w 2)
  have f0 : w1.frozen? ⟨w.heap.size, 0, none⟩ = false := (hb.frozen (p := ⟨w.heap.size, 0, none⟩) (by simp)).trans (ze _ _ _ _)
  have f1 : w1.frozen? ⟨w.heap.size, 1, none⟩ = false := (hb.frozen (p := ⟨w.heap.size, 1, none⟩) (by simp)).trans (ze _ _ _ _)
  have f2 : w1.frozen? ⟨w.heap.size, 2, none⟩ = false := (hb.frozen (p := ⟨w.heap.size, 2, none⟩) (by simp)).trans (ze _ _ _ _)
  simp only [List.getElem?_toArray, List.getElem?_cons_zero, List.getElem?_cons_succ] at n0 n1 n2
  have HB1 := Lib.hid (HW.out.trans (hb.mono HW.out.size))
  have S0 := Lib.hid (set3_0 (u0 := .int .i64 1) (u1 := .int .i64 (n)) (u2 := .string ⟨#[]⟩) n0)
  have S1 := Lib.hid (set3_1 (u0 := .int .i64 1) (u1 := .int .i64 (n)) (u2 := .string ⟨#[]⟩) n1)
  have S2 := Lib.hid (set3_2 (u0 := .int .i64 1) (u1 := .int .i64 (n)) (u2 := .string ⟨#[]⟩) n2)
  clear hb
  go_wp2_with fail
  have s0 := S0.out
  have s1 := S1.out
  have s2 := S2.out
  refine bodyPost_ret (v := .tuple #[.agg #[.int .i64 1, .int .i64 (n), .string ⟨#[]⟩], .int .i64 0]) (by simp [results, Tryz.results103, go_sem, s0, s1, s2]) rfl ?_
  exact ⟨rfl, zp HB1.out (Nat.le_refl _) (grown_set3 _ _ _ _ _)⟩
 have hA : a < 0 := hs.1
 have hB : b < 0 := hs.2
 have hA2 : -a = PI := by omega
 have hB2 : -b = QI := by omega
 clear hs hP hQ hPI hQI
 have HW := Lib.hid ((Below.refl w.heap.size w).alloc (Nat.le_refl _) (.cells #[.int .i64 0, .int .i64 0, .string ⟨#[]⟩] 49))
 have HI := Lib.hid (fun W => in_any (n) (-1099511627776) 1099511627776 W)
 by_cases hr : n < -big \/ big < n
 ·
  have HB := Lib.hid (inB_no (a := n) (b := -1099511627776) (c := 1099511627776) hr)
  unfold fitW
  rw [if_pos hr]
  clear hr
  go_enter Tryz.func103, Tryz.ntmps103
  go_wp2_with fail
  refine (HI.out _).mono ?_
  rintro e w1 ⟨rfl, rfl⟩
  rw [HB.out]
  go_wp2_with fail
  refine bodyPost_ret (v := .tuple #[.agg #[.int .i64 0, .int .i64 0, .string ⟨#[]⟩], .int .i64 2]) (by simp [results, Tryz.results103, go_sem]) rfl ?_
  exact ⟨rfl, HW.out⟩
 have HB := Lib.hid (inB_yes (a := n) (b := -1099511627776) (c := 1099511627776) ⟨by unfold big at hr; omega, by unfold big at hr; omega⟩)
 have HN := Lib.hid (asInt_any (n))
 unfold fitW
 rw [if_neg hr]
 clear hr
 go_enter Tryz.func103, Tryz.ntmps103
 go_wp2_with fail
 refine (HI.out _).mono ?_
 rintro e w1 ⟨rfl, rfl⟩
 rw [HB.out]
 go_wp2_with fail
 refine (HN.out _).mono ?_
 rintro e w1 ⟨rfl, hb⟩
 have n0 := (hb.cell (p := ⟨w.heap.size, 0, none⟩) (by simp)).trans (zero_box w 0)
 have n1 := (hb.cell (p := ⟨w.heap.size, 1, none⟩) (by simp)).trans (zero_box w 1)
 have n2 := (hb.cell (p := ⟨w.heap.size, 2, none⟩) (by simp)).trans (zero_box w 2)
 have f0 : w1.frozen? ⟨w.heap.size, 0, none⟩ = false := (hb.frozen (p := ⟨w.heap.size, 0, none⟩) (by simp)).trans (ze _ _ _ _)
 have f1 : w1.frozen? ⟨w.heap.size, 1, none⟩ = false := (hb.frozen (p := ⟨w.heap.size, 1, none⟩) (by simp)).trans (ze _ _ _ _)
 have f2 : w1.frozen? ⟨w.heap.size, 2, none⟩ = false := (hb.frozen (p := ⟨w.heap.size, 2, none⟩) (by simp)).trans (ze _ _ _ _)
 simp only [List.getElem?_toArray, List.getElem?_cons_zero, List.getElem?_cons_succ] at n0 n1 n2
 have HB1 := Lib.hid (HW.out.trans (hb.mono HW.out.size))
 have S0 := Lib.hid (set3_0 (u0 := .int .i64 1) (u1 := .int .i64 (n)) (u2 := .string ⟨#[]⟩) n0)
 have S1 := Lib.hid (set3_1 (u0 := .int .i64 1) (u1 := .int .i64 (n)) (u2 := .string ⟨#[]⟩) n1)
 have S2 := Lib.hid (set3_2 (u0 := .int .i64 1) (u1 := .int .i64 (n)) (u2 := .string ⟨#[]⟩) n2)
 clear hb
 go_wp2_with fail
 have s0 := S0.out
 have s1 := S1.out
 have s2 := S2.out
 refine bodyPost_ret (v := .tuple #[.agg #[.int .i64 1, .int .i64 (n), .string ⟨#[]⟩], .int .i64 0]) (by simp [results, Tryz.results103, go_sem, s0, s1, s2]) rfl ?_
 exact ⟨rfl, zp HB1.out (Nat.le_refl _) (grown_set3 _ _ _ _ _)⟩
end Go.Proofs.YtfhbdlobhjegcaaGreatDoor
