/- Rows of flat structs in memory (api.Word, api.Glob, api.Instr, int): '!=' of two alike; contracts of grafterylaw.sameWords. -/
import Derived.Test.YtbkagjngckfonaaOut
import Derived.Laws.StructEq
namespace Go.Proofs.Ytbkagjngckfonaa
open Go.RowKit Go.ChangeShapes Go.WideShapes Go.Deep Go.ChangeAt
set_option linter.unusedVariables false

def IsWord (cs : List Value) : Prop := ∃ (k n : Int) (s : ByteArray), cs = [.int .i64 k, .int .i64 n, .string s]
def IsGlob (cs : List Value) : Prop := ∃ (nm : ByteArray) (k n : Int) (s : ByteArray), cs = [.string nm, .int .i64 k, .int .i64 n, .string s]
def IsInstr (cs : List Value) : Prop := ∃ (o a b : Int) (s t : ByteArray) (k n : Int) (u : ByteArray), cs = [.int .i64 o, .int .i64 a, .int .i64 b, .string s, .string t, .int .i64 k, .int .i64 n, .string u]

theorem structWord : Try.prog.underlying 55 = some (.struct (Try.prog.fieldsOf 55)) := by kernel_rfl
theorem heldWord : Try.prog.stoodInHeld 55 = false := by kernel_rfl
theorem structGlob : Try.prog.underlying 57 = some (.struct (Try.prog.fieldsOf 57)) := by kernel_rfl
theorem heldGlob : Try.prog.stoodInHeld 57 = false := by kernel_rfl
theorem structInstr : Try.prog.underlying 64 = some (.struct (Try.prog.fieldsOf 64)) := by kernel_rfl
theorem heldInstr : Try.prog.stoodInHeld 64 = false := by kernel_rfl

theorem eqWord (d : Nat) (k n : Int) (s : ByteArray) (w : World) : (Op.equalIn (d + 1 + 1) 55 (.agg #[.int .i64 k, .int .i64 n, .string s]) (.agg #[.int .i64 k, .int .i64 n, .string s])).run Try.prog w = .ok true w := by
  have u3 := Try.underlying3
  have a3 := Try.isAgg3
  have z3 := Try.sizeOf3
  have u9 := Try.underlying9
  have a9 := Try.isAgg9
  have z9 := Try.sizeOf9
  rw [run_equalIn_agg w (d + 1) 55 _ _ structWord heldWord]
  simp only [Program.fieldsOf, Try.underlying55]
  go_simp

theorem neqWord (k n : Int) (s : ByteArray) (w : World) : (binOp .neq 55 (.agg #[.int .i64 k, .int .i64 n, .string s]) (.agg #[.int .i64 k, .int .i64 n, .string s])).run Try.prog w = .ok (.bool false) w := by
  rw [run_neq_struct, show (10000 : Nat) = 9998 + 1 + 1 from rfl, eqWord]
  rfl

theorem neqGlob (nm : ByteArray) (k n : Int) (s : ByteArray) (w : World) : (binOp .neq 57 (.agg #[.string nm, .int .i64 k, .int .i64 n, .string s]) (.agg #[.string nm, .int .i64 k, .int .i64 n, .string s])).run Try.prog w = .ok (.bool false) w := by
  have u3 := Try.underlying3
  have a3 := Try.isAgg3
  have z3 := Try.sizeOf3
  have u9 := Try.underlying9
  have a9 := Try.isAgg9
  have z9 := Try.sizeOf9
  have aW := Try.isAgg55
  have zW := Try.sizeOf55
  have eW := eqWord 9996 k n s
  rw [run_neq_struct, show (10000 : Nat) = 9996 + 1 + 1 + 1 + 1 from rfl, run_equalIn_agg w _ 57 _ _ structGlob heldGlob]
  simp only [Program.fieldsOf, Try.underlying57]
  have eW2 := eqWord 9997 k n s
  go_simp

theorem neqInstr (o a b : Int) (s t : ByteArray) (k n : Int) (u : ByteArray) (w : World) : (binOp .neq 64 (.agg #[.int .i64 o, .int .i64 a, .int .i64 b, .string s, .string t, .int .i64 k, .int .i64 n, .string u]) (.agg #[.int .i64 o, .int .i64 a, .int .i64 b, .string s, .string t, .int .i64 k, .int .i64 n, .string u])).run Try.prog w = .ok (.bool false) w := by
  have u3 := Try.underlying3
  have a3 := Try.isAgg3
  have z3 := Try.sizeOf3
  have u9 := Try.underlying9
  have a9 := Try.isAgg9
  have z9 := Try.sizeOf9
  have aW := Try.isAgg55
  have zW := Try.sizeOf55
  rw [run_neq_struct, show (10000 : Nat) = 9997 + 1 + 1 + 1 from rfl, run_equalIn_agg w _ 64 _ _ structInstr heldInstr]
  simp only [Program.fieldsOf, Try.underlying64]
  have eW2 := eqWord 9997 k n u
  go_simp

/-- A slice of so many elements, k cells each. -/
structure RowsF (w : World) (A : Option Addr) (len k : Nat) (C : List (List Value)) : Prop where
  size : C.length = len
  at_ : 0 < len → ∃ b o, A = some ⟨b, o, none⟩ ∧ b < w.heap.size ∧ ∀ i, (h : i < C.length) → C[i].length = k ∧ RowAt w b (o + i * k) C[i]
theorem RowsF.below {w w' : World} {A : Option Addr} {len k : Nat} {C : List (List Value)} (h : RowsF w A len k C) (hb : Below w.heap.size w w') : RowsF w' A len k C :=
  ⟨h.size, fun h0 => by
    obtain ⟨b, o, rfl, hl, hc⟩ := h.at_ h0
    exact ⟨b, o, rfl, Nat.lt_of_lt_of_le hl hb.size, fun i hi => ⟨(hc i hi).1, (hc i hi).2.below hb hl⟩⟩⟩
theorem RowsF.drewN {w : World} {A : Option Addr} {len k : Nat} {C : List (List Value)} (h : RowsF w A len k C) (n : Nat) : RowsF (w.drewN n) A len k C := h.below (below_drewN (Below.refl _ _) n)

set_option maxHeartbeats 1000000 in
theorem sameWords_any (A B : Option Addr) (len c1 c2 : Nat) (C : List (List Value)) (w : World) (h1 : len ≤ c1) (h2 : len ≤ c2) (hc1 : c1 ≤ maxLen) (hc2 : c2 ≤ maxLen) (hA : RowsF w A len 3 C) (hB : RowsF w B len 3 C) (hC : ∀ c ∈ C, IsWord c) :
    Calls Try.prog 30 #[.slice A len c1, .slice B len c2] w fun e w' => e = .returned (.bool true) ∧ ∃ n, w' = w.drewN n := by
  have hlen : len ≤ 9223372036854775807 := by unfold maxLen at hc1; omega
  have HA := Lib.hid hA
  have HB := Lib.hid hB
  have HC := Lib.hid hC
  clear hA hB hC
  go_enter Try.func30, Try.ntmps30
  go_wp2_with fail
  go_loopg [5] len (fun g i wx => ∃ k : Nat, g = len - k ∧ k ≤ len ∧ i = .int .i64 k ∧ ∃ n, w.drewN n = wx)
  case atStart => exact ⟨0, by omega, by omega, rfl, 0, rfl⟩
  case round =>
    obtain ⟨k, hg, hk, rfl, n, rfl⟩ := hrel
    have HG := Lib.hid hg
    clear hg
    by_cases hlt : k < len
    · obtain ⟨b, o, rfl, hbw, hrow⟩ := HA.out.at_ (by omega)
      obtain ⟨b', o', rfl, hbw', hrow'⟩ := HB.out.at_ (by omega)
      have hks : k < C.length := by rw [HA.out.size]; exact hlt
      have x1 := (hrow k hks).2
      have x2 := (hrow' k hks).2
      obtain ⟨p, q, s, hp⟩ := HC.out C[k] (List.getElem_mem hks)
      rw [hp] at x1 x2
      have x10 : w.cell? ⟨b, o + k * 3, none⟩ = some (.int .i64 p) := x1 0 (by simp)
      have x11 : w.cell? ⟨b, o + k * 3 + 1, none⟩ = some (.int .i64 q) := x1 1 (by simp)
      have x12 : w.cell? ⟨b, o + k * 3 + 2, none⟩ = some (.string s) := x1 2 (by simp)
      have x20 : w.cell? ⟨b', o' + k * 3, none⟩ = some (.int .i64 p) := x2 0 (by simp)
      have x21 : w.cell? ⟨b', o' + k * 3 + 1, none⟩ = some (.int .i64 q) := x2 1 (by simp)
      have x22 : w.cell? ⟨b', o' + k * 3 + 2, none⟩ = some (.string s) := x2 2 (by simp)
      have hne := neqWord p q s
      have y1 : (k : Int) < (c1 : Int) := by omega
      have y2 : (k : Int) < (c2 : Int) := by omega
      have y3 : (0 : Int) ≤ (k : Int) := Int.natCast_nonneg _
      have y4 : (k : Int) < (len : Int) := by omega
      clear hrow hrow' x1 x2 hp
      go_wp2_with fail
      go_quiet (fail)
      clear hne
      go_wp2_with fail
      go_roundg (len - (k + 1))
      case rel => exact ⟨k + 1, rfl, by omega, by go_num, _, rfl⟩
      case measure => have := HG.out; omega
    · obtain rfl : k = len := by omega
      go_wp2_with fail
      go_ret
      exact ⟨rfl, _, rfl⟩
end Go.Proofs.Ytbkagjngckfonaa
