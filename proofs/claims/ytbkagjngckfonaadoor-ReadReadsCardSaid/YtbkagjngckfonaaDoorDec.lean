/- Contract of grafteryref.Dec: the decimal numeral. -/
import Derived.Test.YtbkagjngckfonaaDoorMem
import Derived.Test.YtbkagjngckfonaaDoorShelf
import Derived.WalkSpells
import Derived.WalkLawsBesides
import Derived.Laws.IdiomStrings
import Derived.Lib.ItoaMem
import Derived.Lib.Hide
import Derived.Deep.RegionHeld3
import Derived.IntWalk
namespace Go.Proofs.YtbkagjngckfonaaDoor
open Go.RowKit Go.ChangeShapes Go.WideShapes Go.Deep
set_option linter.unusedVariables false

def DecIs (u : Nat) (w : World) (e : Ending) (w' : World) : Prop := e = .returned (.string ⟨(Lib.decDigits u).toArray⟩) ∧ Below w.heap.size w w'

def dg8 (u : Nat) : UInt8 := UInt8.ofNat (48 + u)
theorem dg8_nat {u : Nat} (hu : u < 10) : (dg8 u).toNat = 48 + u := by unfold dg8; simp; omega
theorem conv_dig (u : Nat) (hu : u < 10) (W : World) (b c : Nat) (h : W.cell? ⟨b, 0, none⟩ = some (.int .u8 (48 + (u : Int)))) : (convert 35 9 (.slice (some ⟨b, 0, none⟩) 1 c)).run Tryd.prog W = .ok (.string ⟨#[dg8 u]⟩) W := by
  refine run_convert_bytes_back W 35 9 5 ⟨b, 0, none⟩ c [dg8 u] Tryd.underlying35 Tryd.underlying5 Tryd.underlying9 ?_
  intro j hj
  obtain rfl : j = 0 := by simpa using hj
  have e1 := dg8_nat hu
  simp only [Addr.add, List.getElem_cons_zero, e1]
  rw [show ((48 + u : Nat) : Int) = 48 + (u : Int) by omega]
  exact h

set_option maxHeartbeats 1000000 in
set_option maxRecDepth 20000 in
theorem dec_small (u : Nat) (hu : u < 10) (w : World) : Calls Tryd.prog 26 #[.int .i64 u] w (DecIs u w) := by
  have h0 : (0 : Int) ≤ (u : Int) := Int.natCast_nonneg _
  have h1 : (u : Int) < 10 := by omega
  have HC := Lib.hid (conv_dig u hu (w.alloc (.cells #[.int .u8 (48 + (u : Int))] 5)) w.heap.size 1 (by simp))
  go_enter Tryd.func26, Tryd.ntmps26
  go_wp2_with fail
  rw [HC.out]
  simp only [Result.andThen]
  rw [Oper.upon_value]
  go_wp2_with fail
  go_ret
  exact ⟨by rw [Lib.decDigits_one hu]; rfl, (Below.refl _ _).alloc (Nat.le_refl _) _⟩

theorem decDigits_big {u : Nat} (h : ¬ u < 10) : Lib.decDigits u = Lib.decDigits (u / 10) ++ [dg8 (u % 10)] := by
  rw [Lib.decDigits, dif_neg h]; rfl
theorem decDigits_le (u : Nat) : (Lib.decDigits u).length ≤ u + 1 := by
  induction u using Nat.strongRecOn with
  | _ u ih =>
    by_cases h : u < 10
    · rw [Lib.decDigits_one h]; simp
    · rw [decDigits_big h, List.length_append, List.length_singleton]
      have := ih (u / 10) (by omega)
      omega

set_option maxHeartbeats 4000000 in
set_option maxRecDepth 20000 in
theorem dec_nat (u : Nat) : ∀ (hu : u ≤ 1099511627776) (w : World), Calls Tryd.prog 26 #[.int .i64 u] w (DecIs u w) := by
  induction u using Nat.strongRecOn with
  | _ u ih =>
    intro hu w
    by_cases hs : u < 10
    · exact dec_small u hs w
    · have h0 : (0 : Int) ≤ (u : Int) := Int.natCast_nonneg _
      have h1 : ¬ (u : Int) < 10 := by omega
      have IH := Lib.hid (ih (u / 10) (by omega) (by omega))
      have HD := Lib.hid (decDigits_big hs)
      have hlen := decDigits_le (u / 10)
      have HL := Lib.hid hlen
      obtain ⟨q, hq⟩ : ∃ q, u / 10 = q := ⟨_, rfl⟩
      obtain ⟨r, hr⟩ : ∃ r, u % 10 = r := ⟨_, rfl⟩
      have hr10 : r < 10 := by omega
      have hq1 : (u : Int) / 10 = (q : Int) := by omega
      have hr1 : (u : Int) % 10 = (r : Int) := by omega
      have hcv := conv_dig r hr10
      rw [hq] at IH HD HL
      rw [hr] at HD
      clear ih hlen hq hr
      have r0 : (0 : Int) ≤ (r : Int) := Int.natCast_nonneg _
      have r1 : (r : Int) < 10 := by omega
      go_enter Tryd.func26, Tryd.ntmps26
      go_wp2_with fail
      have t2 : (u : Int).tmod 10 = (r : Int) := by rw [Int.tmod_eq_emod_of_nonneg h0]; exact hr1
      have w0 : IntKind.i64.wrap (q : Int) = (q : Int) := IntWalk.i64_in _ (by omega)
      have w1 : IntKind.i64.wrap (48 + (r : Int)) = 48 + (r : Int) := IntWalk.i64_in _ (by omega)
      have w2 : IntKind.u8.wrap (48 + (r : Int)) = 48 + (r : Int) := IntWalk.u8_in _ (by omega)
      have hcv0 := fun (W : World) => hcv (W.alloc (.cells #[.int .u8 (48 + (r : Int))] 5)) W.heap.size 1 (by simp)
      have hcv2 := hcv ((w.alloc (.cells #[.int .u8 (48 + (r : Int))] 5)).drew) w.heap.size 1 (by simp)
      have hneg : ¬ 9223372036854775807 < (Lib.decDigits q).length + 1 := by have := HL.out; omega
      have HCV := Lib.hid hcv
      clear hcv
      go_region_law (first
          | (go_simp; go_at_call 26; (with_reducible refine (IH.out w.drew).mono ?_); rintro e w2 ⟨rfl, hb⟩; have HB := Lib.hid hb; have hcv1 := HCV.out (w2.alloc (.cells #[.int .u8 (48 + (r : Int))] 5)) w2.heap.size 1 (by simp); clear hb)
          | (go_simp; go_at_call 26; (with_reducible refine (IH.out ((w.alloc (.cells #[.int .u8 (48 + (r : Int))] 5)).drew)).mono ?_); rintro e w2 ⟨rfl, hb⟩; have HB := Lib.hid hb; have n0 : w2.cell? ⟨w.heap.size, 0, none⟩ = some (.int .u8 (48 + (r : Int))) := (hb.cell (p := ⟨w.heap.size, 0, none⟩) (by simp)).trans (by simp); have hcv1 := HCV.out w2 w.heap.size 1 n0; clear hb))
      all_goals go_wp2_with fail
      all_goals go_ret
      all_goals refine ⟨by rw [HD.out, ← ByteArray.mk_append_mk]; rfl, ?_⟩
      all_goals first | exact ((Below.refl _ _).drew.trans HB.out).alloc HB.out.size _ | exact (((Below.refl _ _).alloc (Nat.le_refl _) _).drew).trans (HB.out.mono (by simp))

def ItoaIs (n : Int) (w : World) (e : Ending) (w' : World) : Prop := e = .returned (.string ⟨(Lib.itoa n).toArray⟩) ∧ Below w.heap.size w w'
set_option maxHeartbeats 1000000 in
set_option maxRecDepth 20000 in
/-- Dec answers what strconv.Itoa does, in the program's range. -/
theorem dec_any (n : Int) (h0 : -1099511627776 ≤ n) (h1 : n ≤ 1099511627776) (w : World) : Calls Tryd.prog 26 #[.int .i64 n] w (ItoaIs n w) := by
  by_cases hn : 0 ≤ n
  · obtain ⟨u, rfl⟩ : ∃ u : Nat, n = u := ⟨n.toNat, by omega⟩
    refine (dec_nat u (by omega) w).mono ?_
    rintro e w' ⟨rfl, hb⟩
    exact ⟨by rw [Lib.itoa_nonneg], hb⟩
  · obtain ⟨u, hu, rfl⟩ : ∃ u : Nat, 1 ≤ u ∧ n = -(u : Int) := ⟨n.natAbs, by omega, by omega⟩
    have hlen := decDigits_le u
    have hneg : ¬ 9223372036854775807 < 1 + (Lib.decDigits u).length := by omega
    have D := Lib.hid (dec_nat u (by omega) w)
    have hn' : -(u : Int) < 0 := by omega
    have hup : (1 : Int) ≤ (u : Int) := by omega
    clear hlen hn
    go_enter Tryd.func26, Tryd.ntmps26
    go_wp2_with fail
    refine D.out.mono ?_
    rintro e w2 ⟨rfl, hb⟩
    have HB := Lib.hid hb
    clear hb
    go_wp2_with fail
    go_ret
    exact ⟨by rw [Lib.itoa_neg u hu]; rfl, HB.out⟩
end Go.Proofs.YtbkagjngckfonaaDoor
