/- Contracts of read's stop and atom, and of grafteryref's wrong and ends. -/
import Derived.Test.YtbkagjngckfonaaDoorBlanks
import Derived.Test.YtbkagjngckfonaaDoorRead
import Derived.Test.YtbkagjngckfonaaDoorWrite
import Derived.Test.YtbkagjngckfonaaDoorShelf2
namespace Go.Proofs.YtbkagjngckfonaaDoor
open Go.RowKit Go.ChangeShapes Go.WideShapes Go.Deep
set_option linter.unusedVariables false

theorem St.new {w w' : World} {b : Nat} {s : ByteArray} {k : Nat} {R : List Value} (h : St w b s k R) (hb : Below w.heap.size w w') : St w' b s k R :=
  ⟨(hb.cell (p := ⟨b, 0, none⟩) h.lt).trans h.c0, (hb.cell (p := ⟨b, 1, none⟩) h.lt).trans h.c1, fun j u hj => (hb.cell (p := ⟨b, 2 + j, none⟩) h.lt).trans (h.rest j u hj), fun o => (hb.frozen (p := ⟨b, o, none⟩) h.lt).trans (h.frz o)⟩
theorem St.put {w : World} {b : Nat} {s : ByteArray} {k : Nat} {R : List Value} (h : St w b s k R) (j : Nat) (hj : j < R.length) (u : Value) : St (w.setCell ⟨b, 2 + j, none⟩ u) b s k (R.set j u) :=
  ⟨set_other' h.c0 (by omega), set_other' h.c1 (by omega), fun i v hi => by
    by_cases e : i = j
    · subst e
      rw [List.getElem?_set_self hj] at hi
      cases hi
      exact set_same' (h.rest i _ (List.getElem?_eq_getElem hj))
    · rw [List.getElem?_set_ne (Ne.symm e)] at hi
      exact set_other' (h.rest i v hi) (by omega), fun o => by rw [World.frozen?_setCell]; exact h.frz o⟩

/-- A parser that came to a fault. -/
def Stopped (b : Nat) (s : ByteArray) (k : Nat) (R : List Value) (w : World) (e : Ending) (w' : World) : Prop := e = .returned (.agg #[.int .i64 0, .int .i64 0, .string ⟨#[]⟩, .slice none 0 0]) ∧ St w' b s k R ∧ Only b w w'

set_option maxHeartbeats 1000000 in
theorem stop_any (w : World) (b : Nat) (s : ByteArray) (k k' : Nat) (cnt e : Int) (h : St w b s k [.int .i64 cnt, .int .i64 0]) : Calls Tryd.prog 27 #[.pointer (some ⟨b, 0, none⟩), .int .i64 k', .int .i64 e] w (Stopped b s k' [.int .i64 cnt, .int .i64 e] w) := by
  have H := Lib.hid h
  have p1 := h.c1
  have p3 : w.cell? ⟨b, 3, none⟩ = some (.int .i64 0) := h.rest 1 _ rfl
  have f1 := h.frz 1
  have f3 := h.frz 3
  have hlt := h.lt
  have hne1 := Nat.ne_of_lt hlt
  have hne2 := Nat.ne_of_gt hlt
  clear h
  go_enter Tryd.func27, Tryd.ntmps27
  go_wp2_with fail
  refine bodyPost_ret (v := .agg #[.int .i64 0, .int .i64 0, .string ⟨#[]⟩, .slice none 0 0]) (by simp [results, Tryd.results27, go_sem]) rfl ?_
  exact ⟨rfl, (((H.out.at_ k').put 1 (by simp) (.int .i64 e)).new ((Below.refl _ _).alloc (Nat.le_refl _) _)), (((Only.refl b w).set _).set _).trans (Only.of_below ((Below.refl _ _).alloc (Nat.le_refl _) _))⟩

set_option maxHeartbeats 1000000 in
theorem wrong_any (w : World) (b : Nat) (s : ByteArray) (k k' : Nat) (cnt bad e : Int) (h : St w b s k [.int .i64 cnt, .int .i64 bad, .int .i64 0]) : Calls Tryd.prog 29 #[.pointer (some ⟨b, 0, none⟩), .int .i64 k', .int .i64 e] w (Stopped b s k [.int .i64 cnt, .int .i64 k', .int .i64 e] w) := by
  have H := Lib.hid h
  have p3 : w.cell? ⟨b, 3, none⟩ = some (.int .i64 bad) := h.rest 1 _ rfl
  have p4 : w.cell? ⟨b, 4, none⟩ = some (.int .i64 0) := h.rest 2 _ rfl
  have f3 := h.frz 3
  have f4 := h.frz 4
  have hlt := h.lt
  have hne1 := Nat.ne_of_lt hlt
  have hne2 := Nat.ne_of_gt hlt
  clear h
  go_enter Tryd.func29, Tryd.ntmps29
  go_wp2_with fail
  refine bodyPost_ret (v := .agg #[.int .i64 0, .int .i64 0, .string ⟨#[]⟩, .slice none 0 0]) (by simp [results, Tryd.results29, go_sem]) rfl ?_
  exact ⟨rfl, (((H.out.put 2 (by simp) (.int .i64 e)).put 1 (by simp) (.int .i64 k')).new ((Below.refl _ _).alloc (Nat.le_refl _) _)), (((Only.refl b w).set _).set _).trans (Only.of_below ((Below.refl _ _).alloc (Nat.le_refl _) _))⟩

theorem isEnd_or (c : UInt8) : ((((((((c.toNat : Int) == 32) || ((c.toNat : Int) == 10)) || ((c.toNat : Int) == 9)) || ((c.toNat : Int) == 40)) || ((c.toNat : Int) == 41)) || ((c.toNat : Int) == 59)) || ((c.toNat : Int) == 39)) = isEnd c := by
  have h : ∀ n : Fin 256, ((((((((((UInt8.ofNat n.1).toNat : Int) == 32) || (((UInt8.ofNat n.1).toNat : Int) == 10)) || (((UInt8.ofNat n.1).toNat : Int) == 9)) || (((UInt8.ofNat n.1).toNat : Int) == 40)) || (((UInt8.ofNat n.1).toNat : Int) == 41)) || (((UInt8.ofNat n.1).toNat : Int) == 59)) || (((UInt8.ofNat n.1).toNat : Int) == 39)) = isEnd (UInt8.ofNat n.1)) := by decide +kernel
  have := h ⟨c.toNat, c.toNat_lt⟩
  simpa using this
set_option maxHeartbeats 1000000 in
theorem ends_any (c : UInt8) (w : World) : Calls Tryd.prog 30 #[.int .u8 c.toNat] w fun e w' => e = .returned (.bool (isEnd c)) ∧ w' = w := by
  have HE := Lib.hid (isEnd_or c)
  obtain ⟨n, hn⟩ : ∃ n : Int, (c.toNat : Int) = n := ⟨_, rfl⟩
  rw [hn] at HE ⊢
  clear hn
  go_enter Tryd.func30, Tryd.ntmps30
  go_wp2_with fail
  all_goals go_ret
  all_goals refine ⟨?_, rfl⟩
  all_goals rw [← HE.out]
  all_goals simp [*]

/-- Where a byte stands among those that end a word. -/
def endIx (c : UInt8) : Int := Lib.indexByte [32, 10, 9, 40, 41, 59, 39] c
theorem endIx_neg (c : UInt8) : endIx c < 0 ↔ isEnd c = false := by
  have h : ∀ n : Fin 256, endIx (UInt8.ofNat n.1) < 0 ↔ isEnd (UInt8.ofNat n.1) = false := by unfold endIx; decide +kernel
  have := h ⟨c.toNat, c.toNat_lt⟩
  simpa using this
theorem endIx_any (c : UInt8) (J : Int) (hJ : endIx c = J) (w : World) : Calls Tryd.prog 38 #[.string ⟨#[32, 10, 9, 40, 41, 59, 39]⟩, .int .u8 c.toNat] w fun e w' => e = .returned (.int .i64 J) ∧ w' = w := by
  refine (Tryd.strings_IndexByte ⟨#[32, 10, 9, 40, 41, 59, 39]⟩ c.toNat w).mono ?_
  rintro e w' ⟨rfl, rfl⟩
  refine ⟨?_, rfl⟩
  rw [← hJ]
  have e1 : ((c.toNat : Int).toNat).toUInt8 = c := by simp
  rw [e1]
  rfl
end Go.Proofs.YtbkagjngckfonaaDoor
