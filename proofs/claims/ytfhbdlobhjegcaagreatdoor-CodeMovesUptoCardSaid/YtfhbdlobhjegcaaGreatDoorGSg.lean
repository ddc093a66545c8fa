import Derived.Test.YtfhbdlobhjegcaaGreatDoorGBase
import Derived.Test.YtfhbdlobhjegcaaGreatDoorShelf
import Derived.WalkSpells
import Derived.WalkLawsBesides
import Derived.Laws.IdiomStrings
import Derived.Lib.ItoaMem
import Derived.Lib.Hide
import Derived.Deep.RegionHeld3
import Derived.IntWalk
import Derived.Test.YtfhbdlobhjegcaaGreatDoorGSef
namespace Go.Proofs.YtfhbdlobhjegcaaGreatDoor
open Go.RowKit Go.ChangeShapes Go.WideShapes Go.Deep
set_option linter.unusedVariables false
def DecIs (u : Nat) (w : World) (e : Ending) (w' : World) : Prop := e = .returned (.string ⟨(Lib.decDigits u).toArray⟩) /\ Below w.heap.size w w'
def dg8 (u : Nat) : UInt8 := UInt8.ofNat (48 + u)
theorem dg8_nat {u : Nat} (hu : u < 10) : (dg8 u).toNat = 48 + u := by unfold dg8; simp; omega
theorem conv_dig (u : Nat) (hu : u < 10) (W : World) (b c : Nat) (h : W.cell? ⟨b, 0, none⟩ = some (.int .u8 (48 + (u : Int)))) : (convert 180 9 (.slice (some ⟨b, 0, none⟩) 1 c)).run Tryz.prog W = .ok (.string ⟨#[dg8 u]⟩) W := by
 refine run_convert_bytes_back W 180 9 5 ⟨b, 0, none⟩ c [dg8 u] Tryz.underlying180 Tryz.underlying5 Tryz.underlying9 ?_
 intro j hj
 obtain rfl : j = 0 := by simpa using hj
 have e1 := dg8_nat hu
 simp only [Addr.add, List.getElem_cons_zero, e1]
 rw [show ((48 + u : Nat) : Int) = 48 + (u : Int) by omega]
 exact h
set_option maxHeartbeats 1000000 in
set_option maxRecDepth 20000 in
theorem dec_small (u : Nat) (hu : u < 10) (w : World) : Calls Tryz.prog 55 #[.int .i64 u] w (DecIs u w) := by
 have h0 : (0 : Int) <= (u : Int) := Int.natCast_nonneg _
 have h1 : (u : Int) < 10 := by omega
 have HC := Lib.hid (conv_dig u hu (w.alloc (.cells #[.int .u8 (48 + (u : Int))] 5)) w.heap.size 1 (by simp))
 go_enter Tryz.func55, Tryz.ntmps55
 go_wp2_with fail
 rw [HC.out]
 simp only [Result.andThen]
 rw [Oper.upon_value]
 go_wp2_with fail
 go_ret
 exact ⟨by rw [Lib.decDigits_one hu]; rfl, (Below.refl _ _).alloc (Nat.le_refl _) _⟩
theorem decDigits_big {u : Nat} (h : ¬ u < 10) : Lib.decDigits u = Lib.decDigits (u / 10) ++ [dg8 (u % 10)] := by
 rw [Lib.decDigits, dif_neg h]; rfl
theorem decDigits_le (u : Nat) : (Lib.decDigits u).length <= u + 1 := by
 induction u using Nat.strongRecOn with
 | _ u ih =>
  by_cases h : u < 10
  ·
   rw [Lib.decDigits_one h]; simp
  rw [decDigits_big h, List.length_append, List.length_singleton]
  have := ih (u / 10) (by omega)
  omega
set_option maxHeartbeats 4000000 in
set_option maxRecDepth 20000 in
theorem dec_nat (u : Nat) : ∀ (hu : u <= 1099511627776) (w : World), Calls Tryz.prog 55 #[.int .i64 u] w (DecIs u w) := by
 induction u using Nat.strongRecOn with
 | _ u ih =>
  intro hu w
  by_cases hs : u < 10
  ·
   exact dec_small u hs w
  have h0 : (0 : Int) <= (u : Int) := Int.natCast_nonneg _
  have h1 : ¬ (u : Int) < 10 := by omega
  have IH := Lib.hid (ih (u / 10) (by omega) (by omega))
  have HD := Lib.hid (decDigits_big hs)
  have hlen := decDigits_le (u / 10)
  have HL := Lib.hid hlen
  obtain ⟨q, hq⟩ : ∃ q, u / 10 = q := ⟨_, rfl⟩
  obtain ⟨r, hr⟩ : ∃ r, u % 10 = r := ⟨_, rfl⟩
  have hr10 : r < 10 := by omega
  have hq1 : (u : Int) / 10 = (q : Int) := by omega
  have hr1 : (u : Int) % 10 = (r : Int) := by omega
  have hcv := conv_dig r hr10
  rw [hq] at IH HD HL
  rw [hr] at HD
  clear ih hlen hq hr
  have r0 : (0 : Int) <= (r : Int) := Int.natCast_nonneg _
  have r1 : (r : Int) < 10 := by omega
  go_enter Tryz.func55, Tryz.ntmps55
  go_wp2_with fail
  have t2 : (u : Int).tmod 10 = (r : Int) := by rw [Int.tmod_eq_emod_of_nonneg h0]; exact hr1
  have w0 : IntKind.i64.wrap (q : Int) = (q : Int) := IntWalk.i64_in _ (by omega)
  have w1 : IntKind.i64.wrap (48 + (r : Int)) = 48 + (r : Int) := IntWalk.i64_in _ (by omega)
  have w2 : IntKind.u8.wrap (48 + (r : Int)) = 48 + (r : Int) := IntWalk.u8_in _ (by omega)
  have hcv0 := fun (W : World) => hcv (W.alloc (.cells #[.int .u8 (48 + (r : Int))] 5)) W.heap.size 1 (by simp)
  have hcv2 := hcv ((w.alloc (.cells #[.int .u8 (48 + (r : Int))] 5)).drew) w.heap.size 1 (by simp)
  have hneg : ¬ 9223372036854775807 < (Lib.decDigits q).length + 1 := by have := HL.out; omega
  have HCV := Lib.hid hcv
  clear hcv
  go_region_law (first
    | (go_simp; go_at_call 55; (with_reducible refine (IH.out w.drew).mono ?_); rintro e w2 ⟨rfl, hb⟩; have HB := Lib.hid hb; have hcv1 := HCV.out (w2.alloc (.cells #[.int .u8 (48 + (r : Int))] 5)) w2.heap.size 1 (by simp); clear hb)
    | (go_simp; go_at_call 55; (with_reducible refine (IH.out ((w.alloc (.cells #[.int .u8 (48 + (r : Int))] 5)).drew)).mono ?_); rintro e w2 ⟨rfl, hb⟩; have HB := Lib.hid hb; have n0 : w2.cell? ⟨w.heap.size, 0, none⟩ = some (.int .u8 (48 + (r : Int))) := (hb.cell (p := ⟨w.heap.size, 0, none⟩) (by simp)).trans (by simp); have hcv1 := HCV.out w2 w.heap.size 1 n0; clear hb))
  all_goals go_wp2_with fail
  all_goals go_ret
  all_goals refine ⟨by rw [HD.out, <- ByteArray.mk_append_mk]; rfl, ?_⟩
  all_goals first | exact ((Below.refl _ _).drew.trans HB.out).alloc HB.out.size _ | exact (((Below.refl _ _).alloc (Nat.le_refl _) _).drew).trans (HB.out.mono (by simp))
def ItoaIs (n : Int) (w : World) (e : Ending) (w' : World) : Prop := e = .returned (.string ⟨(Lib.itoa n).toArray⟩) /\ Below w.heap.size w w'
set_option maxHeartbeats 1000000 in
set_option maxRecDepth 20000 in
theorem dec_any (n : Int) (h0 : -1099511627776 <= n) (h1 : n <= 1099511627776) (w : World) : Calls Tryz.prog 55 #[.int .i64 n] w (ItoaIs n w) := by
 by_cases hn : 0 <= n
 ·
  obtain ⟨u, rfl⟩ : ∃ u : Nat, n = u := ⟨n.toNat, by omega⟩
  refine (dec_nat u (by omega) w).mono ?_
  rintro e w' ⟨rfl, hb⟩
  exact ⟨by rw [Lib.itoa_nonneg], hb⟩
 obtain ⟨u, hu, rfl⟩ : ∃ u : Nat, 1 <= u /\ n = -(u : Int) := ⟨n.natAbs, by omega, by omega⟩
 have hlen := decDigits_le u
 have hneg : ¬ 9223372036854775807 < 1 + (Lib.decDigits u).length := by omega
 have D := Lib.hid (dec_nat u (by omega) w)
 have hn' : -(u : Int) < 0 := by omega
 have hup : (1 : Int) <= (u : Int) := by omega
 clear hlen hn
 go_enter Tryz.func55, Tryz.ntmps55
 go_wp2_with fail
 refine D.out.mono ?_
 rintro e w2 ⟨rfl, hb⟩
 have HB := Lib.hid hb
 clear hb
 go_wp2_with fail
 go_ret
 exact ⟨by rw [Lib.itoa_neg u hu]; rfl, HB.out⟩
/- The reference's model: contract of shownAt (printed by gen_sg.py). -/
open Go.RowKit Go.ChangeShapes Go.WideShapes Go.Deep Go.ChangeAt
set_option maxRecDepth 20000
def decB (n : Int) : ByteArray := ⟨(Lib.itoa n).toArray⟩
theorem decDigits_len : (k u : Nat) -> u < 10 ^ (k + 1) -> (Lib.decDigits u).length <= k + 1
 | 0, u, h => by
  rw [Lib.decDigits_one (by omega)]
  simp
 | k + 1, u, h => by
  by_cases hs : u < 10
  ·
   rw [Lib.decDigits_one hs]; simp
  rw [decDigits_big hs, List.length_append, List.length_singleton]
  have := decDigits_len k (u / 10) (by rw [Nat.pow_succ] at h; omega)
  omega
theorem decB_len (n : Int) (h1 : -big <= n) (h2 : n <= big) : (decB n).size <= 20 := by
 unfold decB
 show (Lib.itoa n).toArray.size <= 20
 rw [List.size_toArray]
 unfold big at h1 h2
 by_cases hn : 0 <= n
 ·
  obtain ⟨u, rfl⟩ : ∃ u : Nat, n = u := ⟨n.toNat, by omega⟩
  rw [Lib.itoa_nonneg]
  have := decDigits_len 12 u (by omega)
  omega
 obtain ⟨u, hu, rfl⟩ : ∃ u : Nat, 1 <= u /\ n = -(u : Int) := ⟨n.natAbs, by omega, by omega⟩
 rw [Lib.itoa_neg u hu]
 have := decDigits_len 12 u (by omega)
 simp
 omega
theorem shIt_pre (dec : Int -> ByteArray) (a b : Vl) (lev i : Nat) (p s : ByteArray) : shIt dec a b lev i (p ++ s) = p ++ shIt dec a b lev i s := by
 unfold shIt
 simp only
 by_cases h0 : 0 < i
 ·
  simp only [if_pos h0]
  by_cases h5 : i = 50
  ·
   simp only [if_pos h5, ByteArray.append_assoc]
  simp only [if_neg h5]
  cases b <;> simp only [ByteArray.append_assoc]
 simp only [if_neg h0]
 by_cases h5 : i = 50
 ·
  simp only [if_pos h5, ByteArray.append_assoc]
 simp only [if_neg h5]
 cases b <;> simp only [ByteArray.append_assoc]
def shMark (i : Nat) (s : ByteArray) : ByteArray := if 0 < i then s ++ ⟨#[32]⟩ else s
theorem shIt_last (dec : Int -> ByteArray) (a b : Vl) (lev : Nat) (s : ByteArray) : shIt dec a b lev 50 s = shMark 50 s ++ ⟨#[46, 46, 41]⟩ := by unfold shIt shMark; simp
theorem shIt_nil (dec : Int -> ByteArray) (a : Vl) (lev i : Nat) (s : ByteArray) (h : i ≠ 50) : shIt dec a .nil lev i s = shMark i s ++ shV dec a (lev + 1) none ++ ⟨#[41]⟩ := by unfold shIt shMark; simp [h]
theorem shIt_pair (dec : Int -> ByteArray) (a b c : Vl) (lev i : Nat) (s : ByteArray) (h : i ≠ 50) : shIt dec a (.pair b c) lev i s = shIt dec b c lev (i + 1) (shMark i s ++ shV dec a (lev + 1) none) := by
 have e : shIt dec a (.pair b c) lev i s = (shMark i s ++ shV dec a (lev + 1) none) ++ shV dec (.pair b c) lev (some (i + 1)) := by unfold shIt shMark; simp [h]
 rw [e, shV_item, <- shIt_pre]
 congr 1
 rw [show (⟨#[]⟩ : ByteArray) = ByteArray.empty from rfl, ByteArray.append_empty]
theorem shIt_atom (dec : Int -> ByteArray) (a b : Vl) (lev i : Nat) (s : ByteArray) (h : i ≠ 50) (hb : isP b = false) (hn : isN b = false) : shIt dec a b lev i s = shMark i s ++ shV dec a (lev + 1) none ++ ⟨#[32, 46, 32]⟩ ++ shV dec b (lev + 1) none ++ ⟨#[41]⟩ := by
 unfold shIt shMark
 cases b <;> first | (simp [h]; done) | (cases hb; done) | cases hn
theorem shMark_pos {i : Nat} (h : 0 < i) (s : ByteArray) : shMark i s = s ++ ⟨#[32]⟩ := by unfold shMark; rw [if_pos h]
theorem shMark_zero (s : ByteArray) : shMark 0 s = s := rfl
theorem shIt_ge (dec : Int -> ByteArray) (a b : Vl) (lev i : Nat) (s : ByteArray) : s.size <= (shIt dec a b lev i s).size := by
 have h := shIt_pre dec a b lev i s ⟨#[]⟩
 rw [show (⟨#[]⟩ : ByteArray) = ByteArray.empty from rfl, ByteArray.append_empty] at h
 rw [h, ByteArray.size_append]
 omega
structure ShLp (w : World) (lo hi lev : Nat) (FIN : ByteArray) (wr : World) (a b : Vl) (x : MV) (j : Nat) (S : ByteArray) : Prop where
 le : j <= 50
 it : shIt decB a b lev j S = FIN
 ok : VlOk (.pair a b)
 row : RowAt wr w.heap.size 0 x.cells
 fz : ∀ j, wr.frozen? ⟨w.heap.size, j, none⟩ = false
 vl : VlIn w lo hi x (.pair a b)
 bl : Below w.heap.size w wr
 lt : w.heap.size < wr.heap.size
theorem ShLp.next {w wr w2 w3 : World} {lo hi lev : Nat} {FIN : ByteArray} {a b c : Vl} {x y : MV} {j : Nat} {S : ByteArray} (h : ShLp w lo hi lev FIN wr a (.pair b c) x j S) (hj : j ≠ 50) (hy : VlIn w lo hi y (.pair b c)) (h2 : Below wr.heap.size wr w2) (h3 : (((w2.setCell ⟨w.heap.size, 0, none⟩ (.int .i64 y.k)).setCell ⟨w.heap.size, 1, none⟩ (.int .i64 y.n)).setCell ⟨w.heap.size, 2, none⟩ (.string y.s)).setCell ⟨w.heap.size, 3, none⟩ (.pointer y.p) = w3) {w4 : World} (h4 : Below w3.heap.size w3 w4) :
  ShLp w lo hi lev FIN w4 b c y (j + 1) (shMark j S ++ shV decB a (lev + 1) none) := by
 have hr : RowAt w2 w.heap.size 0 x.cells := h.row.below h2 h.lt
 obtain ⟨r3, g3, f3⟩ := set4_at h3 hr
 have hl2 := Nat.lt_of_lt_of_le h.lt h2.size
 have hl3 := Nat.lt_of_lt_of_le hl2 g3.size
 have b2 := h.bl.trans (h2.mono h.bl.size)
 have b3 := zp b2 (Nat.le_refl _) g3
 refine ⟨by have := h.le; omega, by rw [<- h.it, shIt_pair decB a b c lev j S hj], h.ok.2, r3.below h4 hl3, fun i => (h4.frozen (p := ⟨w.heap.size, i, none⟩) hl3).trans ((f3 i).trans ((h2.frozen (p := ⟨w.heap.size, i, none⟩) h.lt).trans (h.fz i))), hy, b3.trans (h4.mono b3.size), Nat.lt_of_lt_of_le hl3 h4.size⟩
theorem VlIn.atm {w : World} {lo hi : Nat} {k n : Int} {s : ByteArray} {p : Option Addr} {v : Vl} (h : VlIn w lo hi ⟨k, n, s, p⟩ v) (h1 : isP v = false) (h2 : isN v = false) : p = none /\ (k == 3) = false := by
 cases h with
 | int n => exact ⟨rfl, rfl⟩
 | bool n => exact ⟨rfl, rfl⟩
 | nil => exact absurd h2 (by decide)
 | sym s => exact ⟨rfl, rfl⟩
 | pair => exact absurd h1 (by simp [isP])
def ShSays (v : Vl) : Prop := ∀ (w : World) (lo hi : Nat) (k n : Int) (s : ByteArray) (p : Option Addr) (M : Option Addr) (lev : Nat), VlIn w lo hi ⟨k, n, s, p⟩ v -> VlOk v -> lev <= 11 -> szV v <= 1073741824 →
  Calls Tryz.prog 27 #[.pointer M, .agg #[.int .i64 k, .int .i64 n, .string s, .pointer p], .int .i64 lev] w fun e w' => e = .returned (.string (shV decB v lev none)) /\ Below w.heap.size w w'
set_option maxHeartbeats 8000000 in
theorem sh_int {m : Int} : ShSays (.int m) := fun w lo hi k n s p M lev hv hok hlev hsz => by
 have HW := Lib.hid ((Below.refl w.heap.size w).alloc (Nat.le_refl _) (.cells #[.int .i64 k, .int .i64 n, .string s, .pointer p] 98))
 cases hv
 have HD := Lib.hid (fun W => dec_any m (by unfold VlOk big at hok; omega) (by unfold VlOk big at hok; omega) W)
 clear hok
 go_enter Tryz.func27, Tryz.ntmps27
 go_wp2_with fail
 refine (HD.out _).mono ?_
 rintro e w2 ⟨rfl, hb⟩
 have HB := Lib.hid (HW.out.trans (hb.mono HW.out.size))
 clear hb
 go_wp2_with fail
 go_ret
 exact ⟨rfl, HB.out⟩
set_option maxHeartbeats 8000000 in
theorem sh_bool {m : Int} : ShSays (.bool m) := fun w lo hi k n s p M lev hv hok hlev hsz => by
 have HW := Lib.hid ((Below.refl w.heap.size w).alloc (Nat.le_refl _) (.cells #[.int .i64 k, .int .i64 n, .string s, .pointer p] 98))
 cases hv
 by_cases hm : m = 1
 ·
  subst hm
  go_enter Tryz.func27, Tryz.ntmps27
  go_wp2_with fail
  go_ret
  exact ⟨rfl, HW.out⟩
 have hmb : (m == 1) = false := by simpa using hm
 have hs : shV decB (.bool m) lev none = ⟨#[35, 102]⟩ := by show (if m = 1 then _ else _) = _; rw [if_neg hm]
 rw [hs]
 clear hs hm
 go_enter Tryz.func27, Tryz.ntmps27
 go_wp2_with fail
 go_ret
 exact ⟨rfl, HW.out⟩
set_option maxHeartbeats 8000000 in
theorem sh_nil : ShSays (.nil) := fun w lo hi k n s p M lev hv hok hlev hsz => by
 have HW := Lib.hid ((Below.refl w.heap.size w).alloc (Nat.le_refl _) (.cells #[.int .i64 k, .int .i64 n, .string s, .pointer p] 98))
 cases hv
 go_enter Tryz.func27, Tryz.ntmps27
 go_wp2_with fail
 go_ret
 exact ⟨rfl, HW.out⟩
set_option maxHeartbeats 8000000 in
theorem sh_sym {m : ByteArray} : ShSays (.sym m) := fun w lo hi k n s p M lev hv hok hlev hsz => by
 have HW := Lib.hid ((Below.refl w.heap.size w).alloc (Nat.le_refl _) (.cells #[.int .i64 k, .int .i64 n, .string s, .pointer p] 98))
 cases hv
 clear hok
 go_enter Tryz.func27, Tryz.ntmps27
 go_wp2_with fail
 go_ret
 exact ⟨rfl, HW.out⟩
set_option maxHeartbeats 8000000 in
theorem sh_pair {a b : Vl} (ih : ∀ u, szV u < szV (.pair a b) -> ShSays u) : ShSays (.pair a b) := fun w lo hi k n s p M lev hv hok hlev hsz => by
 by_cases h10 : 10 < lev
 ·
  have HW := Lib.hid ((Below.refl w.heap.size w).alloc (Nat.le_refl _) (.cells #[.int .i64 k, .int .i64 n, .string s, .pointer p] 98))
  cases hv with
  | pair t q x y _ _ t1 t2 t3 q1 q2 q3 hc hk hr hx hy ha hb =>
  clear hc hk hr hx hy ha hb ih
  have hl : (10 : Int) < (lev : Int) := by omega
  rw [shV_top, if_pos h10]
  clear h10 hok
  go_enter Tryz.func27, Tryz.ntmps27
  go_wp2_with fail
  go_ret
  exact ⟨rfl, HW.out⟩
 have hle : ¬ (10 : Int) < (lev : Int) := by omega
 obtain ⟨FIN, hFIN⟩ : ∃ FIN, shV decB (.pair a b) lev none = FIN := ⟨_, rfl⟩
 have hfs : FIN.size <= 25769803776 := by rw [<- hFIN]; have := shV_len decB_len (.pair a b) hok lev none; omega
 rw [hFIN]
 have HIT := Lib.hid (show shIt decB a b lev 0 ⟨#[40]⟩ = FIN by rw [<- hFIN, shV_top, if_neg h10])
 have HV := Lib.hid hv
 have HOK := Lib.hid hok
 have HSZ := Lib.hid hsz
 have HIH := Lib.hid ih
 obtain ⟨wb, hwb⟩ : ∃ wb, w.alloc (.cells #[.int .i64 k, .int .i64 n, .string s, .pointer p] 98) = wb := ⟨_, rfl⟩
 have hb : Below w.heap.size w wb := by rw [<- hwb]; exact (Below.refl _ _).alloc (Nat.le_refl _) _
 have hbl : w.heap.size < wb.heap.size := by rw [<- hwb]; simp
 have z0 : wb.cell? ⟨w.heap.size, 0, none⟩ = some (.int .i64 k) := by rw [<- hwb]; exact za _ _ _ 0
 have z1 : wb.cell? ⟨w.heap.size, 1, none⟩ = some (.int .i64 n) := by rw [<- hwb]; exact za _ _ _ 1
 have z2 : wb.cell? ⟨w.heap.size, 2, none⟩ = some (.string s) := by rw [<- hwb]; exact za _ _ _ 2
 have z3 : wb.cell? ⟨w.heap.size, 3, none⟩ = some (.pointer p) := by rw [<- hwb]; exact za _ _ _ 3
 have zf : ∀ j, wb.frozen? ⟨w.heap.size, j, none⟩ = false := by intro j; rw [<- hwb]; exact ze _ _ _ _
 have HROW := Lib.hid (show RowAt wb w.heap.size 0 (⟨k, n, s, p⟩ : MV).cells from MV.row z0 z1 z2 z3)
 have HZF := Lib.hid zf
 have HB := Lib.hid hb
 have HWB := Lib.hid hwb
 have hp : ∃ t, p = some ⟨t, 0, none⟩ /\ t < w.heap.size /\ w.cell? ⟨t, 0, none⟩ = some (.int .i64 6) := by
  cases hv with
  | pair t q x y _ _ t1 t2 t3 q1 q2 q3 hc hk => exact ⟨t, rfl, t3, hk⟩
 obtain ⟨t0, rfl, ht0, hk0⟩ := hp
 have y0 := (hb.cell (p := ⟨t0, 0, none⟩) ht0).trans hk0
 clear hFIN h10 hv hok hsz ih hwb hb zf hlev
 go_enter Tryz.func27, Tryz.ntmps27
 go_upto_region 1 with fail
 rw [HWB.out]
 go_wp2_with fail
 go_loopg [9, 10] (szV (.pair a b)) (fun g sv i wr => ∃ (a' b' : Vl) (k' n' : Int) (s' : ByteArray) (p' : Option Addr) (j : Nat) (S : ByteArray), g = szV (.pair a' b') /\ i = .int .i64 j /\ sv = .string S /\ ShLp w lo hi lev FIN wr a' b' ⟨k', n', s', p'⟩ j S /\ szV (.pair a' b') <= szV (.pair a b))
 case atStart => exact ⟨a, b, _, _, _, _, 0, _, rfl, rfl, rfl, ⟨by omega, HIT.out, HOK.out, HROW.out, HZF.out, HV.out, HB.out, hbl⟩, Nat.le_refl _⟩
 obtain ⟨a', b', k', n', s', p', j, S, hg, rfl, rfl, hlp, hgs⟩ := hrel
 have HG := Lib.hid hg
 have HL := Lib.hid hlp
 have HGS := Lib.hid hgs
 obtain ⟨v0, v1, v2, v3⟩ := MV.at_ hlp.row
 simp only [Nat.zero_add] at v0 v1 v2 v3
 have hlr := hlp.lt
 have hbr := hlp.bl
 have hj50 := hlp.le
 cases hlp.vl with
 | pair t q x y _ _ t1 t2 t3 q1 q2 q3 hc hk hr hx hy ha hb =>
 obtain ⟨ak, an, aS, ap⟩ := x
 obtain ⟨bk, bn, bS, bp⟩ := y
 obtain ⟨A0, A1, A2, A3⟩ := MV.at_ hx
 obtain ⟨B0, B1, B2, B3⟩ := MV.at_ hy
 simp only [Nat.zero_add, Nat.reduceAdd] at A0 A1 A2 A3 B0 B1 B2 B3
 have e2 := (hbr.cell (p := ⟨t, 2, none⟩) t3).trans hr
 have xa0 := (hbr.cell (p := ⟨q, 0, none⟩) q3).trans A0
 have xa1 := (hbr.cell (p := ⟨q, 1, none⟩) q3).trans A1
 have xa2 := (hbr.cell (p := ⟨q, 2, none⟩) q3).trans A2
 have xa3 := (hbr.cell (p := ⟨q, 3, none⟩) q3).trans A3
 have xb0 := (hbr.cell (p := ⟨q, 4, none⟩) q3).trans B0
 have xb1 := (hbr.cell (p := ⟨q, 5, none⟩) q3).trans B1
 have xb2 := (hbr.cell (p := ⟨q, 6, none⟩) q3).trans B2
 have xb3 := (hbr.cell (p := ⟨q, 7, none⟩) q3).trans B3
 have t3r : t < wr.heap.size := Nat.lt_of_lt_of_le t3 hbr.size
 have q3r : q < wr.heap.size := Nat.lt_of_lt_of_le q3 hbr.size
 have HYB := Lib.hid hb
 obtain ⟨HA, hHA⟩ : ∃ HA, shV decB a' (lev + 1) none = HA := ⟨_, rfl⟩
 have hsz := HSZ.out
 have hq1 : szV a' < szV (.pair a b) /\ szV b' < szV (.pair a b) /\ szV a' <= 1073741824 /\ szV b' <= 1073741824 := by simp only [szV] at hgs hsz ⊢; omega
 have HQ := Lib.hid hq1
 have KA := Lib.hid (show ∀ W, Below w.heap.size w W -> Calls Tryz.prog 27 #[.pointer M, .agg #[.int .i64 ak, .int .i64 an, .string aS, .pointer ap], .int .i64 ((lev : Int) + 1)] W (fun e w' => e = .returned (.string HA) /\ Below W.heap.size W w') from fun W hW => by
  have h := HIH.out a' HQ.out.1 W lo hi _ _ _ _ M (lev + 1) (ha.keep (zr hW) hW.size (Nat.le_refl _) (Nat.le_refl _)) hlp.ok.1 (by omega) HQ.out.2.2.1
  rw [hHA] at h
  exact h)
 have has : HA.size <= 25769803776 := by rw [<- hHA]; have := shV_len decB_len a' hlp.ok.1 (lev + 1) none; omega
 have hss : S.size <= 25769803776 := by have h1 := shIt_ge decB a' b' lev j S; rw [hlp.it] at h1; omega
 have HHA := Lib.hid hHA
 clear hg hlp hgs hq1 hbr hc hk hr hx hy ha hb A0 A1 A2 A3 B0 B1 B2 B3 hsz hHA
 by_cases hj0 : j = 0
 ·
  subst hj0
  have HMK := Lib.hid (shMark_zero S)
  have HJ := Lib.hid (show (0 : Nat) ≠ 50 by omega)
  go_wp2_with fail
  refine (KA.out wr HL.out.bl).mono ?_
  rintro e w2 ⟨rfl, hb2⟩
  have c0 := (hb2.cell (p := ⟨w.heap.size, 0, none⟩) hlr).trans v0
  have c1 := (hb2.cell (p := ⟨w.heap.size, 1, none⟩) hlr).trans v1
  have c2 := (hb2.cell (p := ⟨w.heap.size, 2, none⟩) hlr).trans v2
  have c3 := (hb2.cell (p := ⟨w.heap.size, 3, none⟩) hlr).trans v3
  have f0 := (hb2.frozen (p := ⟨w.heap.size, 0, none⟩) hlr).trans (HL.out.fz 0)
  have f1 := (hb2.frozen (p := ⟨w.heap.size, 1, none⟩) hlr).trans (HL.out.fz 1)
  have f2 := (hb2.frozen (p := ⟨w.heap.size, 2, none⟩) hlr).trans (HL.out.fz 2)
  have f3 := (hb2.frozen (p := ⟨w.heap.size, 3, none⟩) hlr).trans (HL.out.fz 3)
  have e2 := (hb2.cell (p := ⟨t, 2, none⟩) t3r).trans e2
  have xb0 := (hb2.cell (p := ⟨q, 4, none⟩) q3r).trans xb0
  have xb1 := (hb2.cell (p := ⟨q, 5, none⟩) q3r).trans xb1
  have xb2 := (hb2.cell (p := ⟨q, 6, none⟩) q3r).trans xb2
  have xb3 := (hb2.cell (p := ⟨q, 7, none⟩) q3r).trans xb3
  have hl2 : w.heap.size < w2.heap.size := Nat.lt_of_lt_of_le hlr hb2.size
  have HBR := Lib.hid hb2
  have HB2 := Lib.hid (HL.out.bl.trans (hb2.mono HL.out.bl.size))
  clear hb2 v0 v1 v2 v3 xa0 xa1 xa2 xa3
  go_upto_region 33 with fail
  obtain ⟨w3, hw3⟩ : ∃ w3, (((w2.setCell ⟨w.heap.size, 0, none⟩ (.int .i64 bk)).setCell ⟨w.heap.size, 1, none⟩ (.int .i64 bn)).setCell ⟨w.heap.size, 2, none⟩ (.string bS)).setCell ⟨w.heap.size, 3, none⟩ (.pointer bp) = w3 := ⟨_, rfl⟩
  obtain ⟨⟨s0, s1, s2, s3⟩, hg3⟩ := set4_any hw3 c0 c1 c2 c3
  rw [hw3]
  have hb3 := zp HB2.out (Nat.le_refl _) hg3
  have hl3 : w.heap.size < w3.heap.size := Nat.lt_of_lt_of_le hl2 hg3.size
  have HB3 := Lib.hid hb3
  have HW3 := Lib.hid hw3
  clear hw3 hg3 hb3 c0 c1 c2 c3 f0 f1 f2 f3 e2
  cases hP : isP b'
  ·
   cases hN : isN b'
   ·
    obtain ⟨rfl, hk3⟩ := HYB.out.atm hP hN
    have HFI := Lib.hid (show S ++ HA ++ ⟨#[32, 46, 32]⟩ ++ shV decB b' (lev + 1) none ++ ⟨#[41]⟩ = FIN by rw [<- HMK.out, <- HHA.out, <- shIt_atom decB _ _ lev 0 S HJ.out hP hN]; exact HL.out.it)
    have KI := Lib.hid (isA_any ((HYB.out.keep (w' := w3) (zr HB3.out) HB3.out.size (Nat.le_refl _) (Nat.le_refl _))))
    obtain ⟨HBs, hHBs⟩ : ∃ HBs, shV decB b' (lev + 1) none = HBs := ⟨_, rfl⟩
    have KB := Lib.hid (show ∀ W, Below w.heap.size w W -> Calls Tryz.prog 27 #[.pointer M, .agg #[.int .i64 bk, .int .i64 bn, .string bS, .pointer none], .int .i64 ((lev : Int) + 1)] W (fun e w' => e = .returned (.string HBs) /\ Below W.heap.size W w') from fun W hW => by
     have h := HIH.out b' HQ.out.2.1 W lo hi _ _ _ _ M (lev + 1) (HYB.out.keep (zr hW) hW.size (Nat.le_refl _) (Nat.le_refl _)) HL.out.ok.2 (by omega) HQ.out.2.2.2
     rw [hHBs] at h
     exact h)
    have hbs : HBs.size <= 25769803776 := by rw [<- hHBs]; have := shV_len decB_len b' HL.out.ok.2 (lev + 1) none; have := HQ.out.2.2.2; omega
    rw [hHBs] at HFI
    rw [hP] at KI
    clear hHBs hP hN
    go_wp2_with fail
    refine KI.out.mono ?_
    rintro e w4 ⟨rfl, hb4⟩
    have s0 := (hb4.cell (p := ⟨w.heap.size, 0, none⟩) hl3).trans s0
    have s1 := (hb4.cell (p := ⟨w.heap.size, 1, none⟩) hl3).trans s1
    have s2 := (hb4.cell (p := ⟨w.heap.size, 2, none⟩) hl3).trans s2
    have s3 := (hb4.cell (p := ⟨w.heap.size, 3, none⟩) hl3).trans s3
    have HB4 := Lib.hid (HB3.out.trans (hb4.mono HB3.out.size))
    clear hb4
    go_wp2_with fail
    refine (KB.out w4 HB4.out).mono ?_
    rintro e w5 ⟨rfl, hb5⟩
    have HB5 := Lib.hid (HB4.out.trans (hb5.mono HB4.out.size))
    clear hb5
    go_wp2_with fail
    go_ret
    exact ⟨(by rw [<- HFI.out]; rfl), HB5.out⟩
   have hbn : b' = .nil := by cases b' <;> first | rfl | cases hN
   subst hbn
   have HFI := Lib.hid (show S ++ HA ++ ⟨#[41]⟩ = FIN by rw [<- HMK.out, <- HHA.out, <- shIt_nil decB _ lev 0 S HJ.out]; exact HL.out.it)
   have e3 : bk = 3 /\ bp = none := by have h := HYB.out; cases h; exact ⟨rfl, rfl⟩
   obtain ⟨rfl, rfl⟩ := e3
   clear hP hN
   go_wp2_with fail
   go_ret
   exact ⟨(by rw [<- HFI.out]; rfl), HB3.out⟩
  obtain ⟨b1, b2, rfl⟩ : ∃ b1 b2, b' = .pair b1 b2 := by cases b' <;> first | exact ⟨_, _, rfl⟩ | cases hP
  have e3 : ∃ t', bp = some ⟨t', 0, none⟩ := by have h := HYB.out; cases h; exact ⟨_, rfl⟩
  obtain ⟨t', rfl⟩ := e3
  have KI := Lib.hid (isA_any ((HYB.out.keep (w' := w3) (zr HB3.out) HB3.out.size (Nat.le_refl _) (Nat.le_refl _))))
  rw [hP] at KI
  clear hP
  go_wp2_with fail
  refine KI.out.mono ?_
  rintro e w4 ⟨rfl, hb4⟩
  have HB4 := Lib.hid hb4
  clear hb4
  go_wp2_with fail
  go_roundg (szV (.pair b1 b2))
  case rel => exact ⟨b1, b2, _, _, _, _, 0 + 1, S ++ HA, rfl, by go_num, rfl, by rw [<- HMK.out, <- HHA.out]; exact HL.out.next HJ.out HYB.out HBR.out HW3.out HB4.out, by have hgs := HGS.out; simp only [szV] at hgs ⊢; omega⟩
  case measure => have := HG.out; simp only [szV] at this ⊢; omega
 have hji : (0 : Int) < (j : Int) := by omega
 by_cases h50 : j = 50
 ·
  subst h50
  have HFI := Lib.hid (show S ++ ⟨#[32]⟩ ++ ⟨#[46, 46, 41]⟩ = FIN by rw [<- shMark_pos (by omega : 0 < 50) S, <- shIt_last]; exact HL.out.it)
  clear hj0
  go_wp2_with fail
  go_ret
  exact ⟨(by rw [<- HFI.out]; rfl), HL.out.bl⟩
 have hjb : ((j : Int) == 50) = false := by simp; omega
 have HJ := Lib.hid h50
 clear h50
 go_upto_region 29 with fail
 obtain ⟨SM, hSM⟩ : ∃ SM, S ++ (⟨#[32]⟩ : ByteArray) = SM := ⟨_, rfl⟩
 rw [hSM]
 have hss2 : SM.size <= 25769803777 := by rw [<- hSM, ByteArray.size_append]; have : (⟨#[32]⟩ : ByteArray).size = 1 := rfl; omega
 have HMK := Lib.hid (show shMark j S = SM by rw [shMark_pos (by omega : 0 < j), hSM])
 clear hSM hj0 hji
 go_wp2_with fail
 refine (KA.out wr HL.out.bl).mono ?_
 rintro e w2 ⟨rfl, hb2⟩
 have c0 := (hb2.cell (p := ⟨w.heap.size, 0, none⟩) hlr).trans v0
 have c1 := (hb2.cell (p := ⟨w.heap.size, 1, none⟩) hlr).trans v1
 have c2 := (hb2.cell (p := ⟨w.heap.size, 2, none⟩) hlr).trans v2
 have c3 := (hb2.cell (p := ⟨w.heap.size, 3, none⟩) hlr).trans v3
 have f0 := (hb2.frozen (p := ⟨w.heap.size, 0, none⟩) hlr).trans (HL.out.fz 0)
 have f1 := (hb2.frozen (p := ⟨w.heap.size, 1, none⟩) hlr).trans (HL.out.fz 1)
 have f2 := (hb2.frozen (p := ⟨w.heap.size, 2, none⟩) hlr).trans (HL.out.fz 2)
 have f3 := (hb2.frozen (p := ⟨w.heap.size, 3, none⟩) hlr).trans (HL.out.fz 3)
 have e2 := (hb2.cell (p := ⟨t, 2, none⟩) t3r).trans e2
 have xb0 := (hb2.cell (p := ⟨q, 4, none⟩) q3r).trans xb0
 have xb1 := (hb2.cell (p := ⟨q, 5, none⟩) q3r).trans xb1
 have xb2 := (hb2.cell (p := ⟨q, 6, none⟩) q3r).trans xb2
 have xb3 := (hb2.cell (p := ⟨q, 7, none⟩) q3r).trans xb3
 have hl2 : w.heap.size < w2.heap.size := Nat.lt_of_lt_of_le hlr hb2.size
 have HBR := Lib.hid hb2
 have HB2 := Lib.hid (HL.out.bl.trans (hb2.mono HL.out.bl.size))
 clear hb2 v0 v1 v2 v3 xa0 xa1 xa2 xa3
 go_upto_region 33 with fail
 obtain ⟨w3, hw3⟩ : ∃ w3, (((w2.setCell ⟨w.heap.size, 0, none⟩ (.int .i64 bk)).setCell ⟨w.heap.size, 1, none⟩ (.int .i64 bn)).setCell ⟨w.heap.size, 2, none⟩ (.string bS)).setCell ⟨w.heap.size, 3, none⟩ (.pointer bp) = w3 := ⟨_, rfl⟩
 obtain ⟨⟨s0, s1, s2, s3⟩, hg3⟩ := set4_any hw3 c0 c1 c2 c3
 rw [hw3]
 have hb3 := zp HB2.out (Nat.le_refl _) hg3
 have hl3 : w.heap.size < w3.heap.size := Nat.lt_of_lt_of_le hl2 hg3.size
 have HB3 := Lib.hid hb3
 have HW3 := Lib.hid hw3
 clear hw3 hg3 hb3 c0 c1 c2 c3 f0 f1 f2 f3 e2
 cases hP : isP b'
 ·
  cases hN : isN b'
  ·
   obtain ⟨rfl, hk3⟩ := HYB.out.atm hP hN
   have HFI := Lib.hid (show SM ++ HA ++ ⟨#[32, 46, 32]⟩ ++ shV decB b' (lev + 1) none ++ ⟨#[41]⟩ = FIN by rw [<- HMK.out, <- HHA.out, <- shIt_atom decB _ _ lev j S HJ.out hP hN]; exact HL.out.it)
   have KI := Lib.hid (isA_any ((HYB.out.keep (w' := w3) (zr HB3.out) HB3.out.size (Nat.le_refl _) (Nat.le_refl _))))
   obtain ⟨HBs, hHBs⟩ : ∃ HBs, shV decB b' (lev + 1) none = HBs := ⟨_, rfl⟩
   have KB := Lib.hid (show ∀ W, Below w.heap.size w W -> Calls Tryz.prog 27 #[.pointer M, .agg #[.int .i64 bk, .int .i64 bn, .string bS, .pointer none], .int .i64 ((lev : Int) + 1)] W (fun e w' => e = .returned (.string HBs) /\ Below W.heap.size W w') from fun W hW => by
    have h := HIH.out b' HQ.out.2.1 W lo hi _ _ _ _ M (lev + 1) (HYB.out.keep (zr hW) hW.size (Nat.le_refl _) (Nat.le_refl _)) HL.out.ok.2 (by omega) HQ.out.2.2.2
    rw [hHBs] at h
    exact h)
   have hbs : HBs.size <= 25769803776 := by rw [<- hHBs]; have := shV_len decB_len b' HL.out.ok.2 (lev + 1) none; have := HQ.out.2.2.2; omega
   rw [hHBs] at HFI
   rw [hP] at KI
   clear hHBs hP hN
   go_wp2_with fail
   refine KI.out.mono ?_
   rintro e w4 ⟨rfl, hb4⟩
   have s0 := (hb4.cell (p := ⟨w.heap.size, 0, none⟩) hl3).trans s0
   have s1 := (hb4.cell (p := ⟨w.heap.size, 1, none⟩) hl3).trans s1
   have s2 := (hb4.cell (p := ⟨w.heap.size, 2, none⟩) hl3).trans s2
   have s3 := (hb4.cell (p := ⟨w.heap.size, 3, none⟩) hl3).trans s3
   have HB4 := Lib.hid (HB3.out.trans (hb4.mono HB3.out.size))
   clear hb4
   go_wp2_with fail
   refine (KB.out w4 HB4.out).mono ?_
   rintro e w5 ⟨rfl, hb5⟩
   have HB5 := Lib.hid (HB4.out.trans (hb5.mono HB4.out.size))
   clear hb5
   go_wp2_with fail
   go_ret
   exact ⟨(by rw [<- HFI.out]; rfl), HB5.out⟩
  have hbn : b' = .nil := by cases b' <;> first | rfl | cases hN
  subst hbn
  have HFI := Lib.hid (show SM ++ HA ++ ⟨#[41]⟩ = FIN by rw [<- HMK.out, <- HHA.out, <- shIt_nil decB _ lev j S HJ.out]; exact HL.out.it)
  have e3 : bk = 3 /\ bp = none := by have h := HYB.out; cases h; exact ⟨rfl, rfl⟩
  obtain ⟨rfl, rfl⟩ := e3
  clear hP hN
  go_wp2_with fail
  go_ret
  exact ⟨(by rw [<- HFI.out]; rfl), HB3.out⟩
 obtain ⟨b1, b2, rfl⟩ : ∃ b1 b2, b' = .pair b1 b2 := by cases b' <;> first | exact ⟨_, _, rfl⟩ | cases hP
 have e3 : ∃ t', bp = some ⟨t', 0, none⟩ := by have h := HYB.out; cases h; exact ⟨_, rfl⟩
 obtain ⟨t', rfl⟩ := e3
 have KI := Lib.hid (isA_any ((HYB.out.keep (w' := w3) (zr HB3.out) HB3.out.size (Nat.le_refl _) (Nat.le_refl _))))
 rw [hP] at KI
 clear hP
 go_wp2_with fail
 refine KI.out.mono ?_
 rintro e w4 ⟨rfl, hb4⟩
 have HB4 := Lib.hid hb4
 clear hb4
 go_wp2_with fail
 go_roundg (szV (.pair b1 b2))
 case rel => exact ⟨b1, b2, _, _, _, _, j + 1, SM ++ HA, rfl, by go_num, rfl, by rw [<- HMK.out, <- HHA.out]; exact HL.out.next HJ.out HYB.out HBR.out HW3.out HB4.out, by have hgs := HGS.out; simp only [szV] at hgs ⊢; omega⟩
 case measure => have := HG.out; simp only [szV] at this ⊢; omega
theorem shV_any : (n : Nat) -> ∀ v, szV v <= n -> ShSays v
 | 0, v, h => by cases v <;> (simp only [szV] at h; omega)
 | n + 1, v, h => by
  cases v with
  | int m => exact sh_int
  | bool m => exact sh_bool
  | nil => exact sh_nil
  | sym m => exact sh_sym
  | pair a b => exact sh_pair (fun u hu => shV_any n u (by omega))
end Go.Proofs.YtfhbdlobhjegcaaGreatDoor
