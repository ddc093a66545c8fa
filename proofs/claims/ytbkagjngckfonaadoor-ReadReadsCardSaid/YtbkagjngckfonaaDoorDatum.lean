/- Data (api.Datum) in memory, and what read.Check and grafteryref.DatumFault answer of one. -/
import Derived.Test.YtbkagjngckfonaaDoorMem
namespace Go.Proofs.YtbkagjngckfonaaDoor
open Go.RowKit Go.ChangeShapes Go.WideShapes Go.Deep
set_option linter.unusedVariables false

theorem readableDatum : Tryd.prog.readableRec 24 = true := by kernel_rfl
theorem rowDatum : 24 < Tryd.prog.types.size := of_decide_eq_true (by kernel_rfl)
theorem cellsDatum : Tryd.prog.cellsOf 24 = 4 := by kernel_rfl
theorem cellsInt : Tryd.prog.cellsOf 3 = 1 := by kernel_rfl
theorem cellsString : Tryd.prog.cellsOf 9 = 1 := by kernel_rfl
theorem cellsSlDatum : Tryd.prog.cellsOf 22 = 1 := by kernel_rfl

theorem ret_i {a b : Int} (h : a = b) : Ending.returned (.int .i64 a) = .returned (.int .i64 b) := by rw [h]

section
variable {H : Type} {enc : TypeId × Value → H}

/-- What is known of a slice whose elements read as the elements of 'it'. -/
structure SlAt (enc : TypeId × Value → H) (w : World) (e C : Nat) (A : Option Addr) (len cap : Nat) (it : DataW H) : Prop where
  le : len ≤ cap
  wide : cap ≤ maxLen
  size : (elems it).length = len
  at_ : 0 < len → ∃ b o, A = some ⟨b, o, none⟩ ∧ b < w.heap.size ∧ ∀ i, (hi : i < (elems it).length) → ∃ cs', cs'.length = C ∧ RowAt w b (o + i * C) cs' ∧ Rd enc w e cs' (elems it)[i]

theorem Rd.slAt {w : World} {t e C : Nat} {cs : List Value} {d : DataW H} (ht : Tryd.prog.underlying t = some (.slice e)) (hC : Tryd.prog.cellsOf e = C) (hC0 : 0 < C) (h : Rd enc w t cs d) :
    ∃ (A : Option Addr) (len cap : Nat), cs = [.slice A len cap] ∧ SlAt enc w e C A len cap d := by
  obtain ⟨A, len, cap, h1, h2, h3, h4, _, h6⟩ := h.slice ht hC hC0
  exact ⟨A, len, cap, h1, h2, h3, h4, h6⟩

theorem Rd.datum {w : World} {cs : List Value} {d : DataW H} (h : Rd enc w 24 cs d) :
    ∃ (k n : Int) (s : ByteArray) (A : Option Addr) (len cap : Nat) (it : DataW H), cs = [.int .i64 k, .int .i64 n, .string s, .slice A len cap] ∧
      d = .agg [.lit (.int .i64 k), .lit (.int .i64 n), .lit (.string s.data.toList), it] ∧ (-9223372036854775808 ≤ k ∧ k ≤ 9223372036854775807) ∧ (-9223372036854775808 ≤ n ∧ n ≤ 9223372036854775807) ∧ s.size ≤ maxLen ∧
      SlAt enc w 24 4 A len cap it := by
  obtain ⟨f, ps, h⟩ := h
  obtain ⟨xs, m, _, hx, hl, hlen, hf⟩ := DataW.trod_struct Tryd.underlying24 h
  rw [cellsDatum] at hl
  match cs, hl, xs, hlen with
  | [c0, c1, c2, c3], _, [y0, y1, y2, y3], _ =>
    simp only [Prod.mk.injEq] at hx
    have h0 : Rd enc w 3 [c0] y0.1 := ⟨m, y0.2, by simpa [cellsInt] using hf 0 _ rfl⟩
    have h1 : Rd enc w 3 [c1] y1.1 := ⟨m, y1.2, by simpa [cellsInt] using hf 1 _ rfl⟩
    have h2 : Rd enc w 9 [c2] y2.1 := ⟨m, y2.2, by simpa [cellsString] using hf 2 _ rfl⟩
    have h3 : Rd enc w 22 [c3] y3.1 := ⟨m, y3.2, by simpa [cellsSlDatum] using hf 3 _ rfl⟩
    obtain ⟨k, e0, d0, k1, k2⟩ := h0.int Tryd.underlying3
    obtain ⟨n, e1, d1, n1, n2⟩ := h1.int Tryd.underlying3
    obtain ⟨s, e2, d2, s1⟩ := h2.string Tryd.underlying9
    obtain ⟨A, len, cap, e3, hs⟩ := h3.slAt Tryd.underlying22 cellsDatum (by decide)
    simp only [List.cons.injEq, and_true] at e0 e1 e2 e3
    subst e0 e1 e2 e3
    refine ⟨k, n, s, A, len, cap, y3.1, rfl, ?_, ⟨k1, k2⟩, ⟨n1, n2⟩, s1, hs⟩
    rw [hx.1]
    simp [d0, d1, d2]

/-! ### what the two answer -/
def dKind : DataW H → Int
  | .agg (.lit (.int _ k) :: _) => k
  | _ => 0
def dN : DataW H → Int
  | .agg (_ :: .lit (.int _ n) :: _) => n
  | _ => 0
def dS : DataW H → List UInt8
  | .agg (_ :: _ :: .lit (.string s) :: _) => s
  | _ => []
def dItems : DataW H → List (DataW H)
  | .agg (_ :: _ :: _ :: it :: _) => elems it
  | _ => []
def firstErr : List Int → Int
  | [] => 0
  | e :: r => if e = 0 then firstErr r else e
def headFault (k n : Int) (nm : Bool) (z m : Nat) : Int :=
  if (k = 1 ∧ (n < -1099511627776 ∨ 1099511627776 < n)) ∨ (k = 2 ∧ (n < 0 ∨ 1 < n)) then 2
  else if k = 3 ∧ nm = false then 4
  else if (3 ≤ k ∧ n ≠ 0) ∨ (k ≠ 3 ∧ z ≠ 0) ∨ (k ≠ 4 ∧ m ≠ 0) then 4 else 0
theorem hf2 {k n : Int} {nm : Bool} {z m : Nat} (h : (k = 1 ∧ (n < -1099511627776 ∨ 1099511627776 < n)) ∨ (k = 2 ∧ (n < 0 ∨ 1 < n))) : headFault k n nm z m = 2 := by
  unfold headFault; rw [if_pos h]
theorem hf4n {k n : Int} {nm : Bool} {z m : Nat} (h : k = 3) (hn : nm = false) : headFault k n nm z m = 4 := by
  unfold headFault; rw [if_neg (by omega), if_pos ⟨h, hn⟩]
theorem hf4 {k n : Int} {nm : Bool} {z m : Nat} (h : ¬ ((k = 1 ∧ (n < -1099511627776 ∨ 1099511627776 < n)) ∨ (k = 2 ∧ (n < 0 ∨ 1 < n)))) (hn : k = 3 → nm = true) (h3 : (3 ≤ k ∧ n ≠ 0) ∨ (k ≠ 3 ∧ z ≠ 0) ∨ (k ≠ 4 ∧ m ≠ 0)) : headFault k n nm z m = 4 := by
  unfold headFault; rw [if_neg h, if_neg (fun h' => by rw [hn h'.1] at h'; exact absurd h'.2 (by simp)), if_pos h3]
theorem hf0 {k n : Int} {nm : Bool} {z m : Nat} (h : ¬ ((k = 1 ∧ (n < -1099511627776 ∨ 1099511627776 < n)) ∨ (k = 2 ∧ (n < 0 ∨ 1 < n)))) (hn : k = 3 → nm = true) (h3 : ¬ ((3 ≤ k ∧ n ≠ 0) ∨ (k ≠ 3 ∧ z ≠ 0) ∨ (k ≠ 4 ∧ m ≠ 0))) : headFault k n nm z m = 0 := by
  unfold headFault; rw [if_neg h, if_neg (fun h' => by rw [hn h'.1] at h'; exact absurd h'.2 (by simp)), if_neg h3]
/-- What is wrong with a datum, when so many levels more may be. -/
def fault : Nat → DataW H → Int
  | 0, d => if dKind d < 1 ∨ 4 < dKind d then 3 else 8
  | r + 1, d =>
    if dKind d < 1 ∨ 4 < dKind d then 3
    else if headFault (dKind d) (dN d) (nameB (dS d)) (dS d).length (dItems d).length ≠ 0 then headFault (dKind d) (dN d) (nameB (dS d)) (dS d).length (dItems d).length
    else firstErr ((dItems d).map (fault r))

theorem firstErr_zero {l : List Int} (h : ∀ x ∈ l, x = 0) : firstErr l = 0 := by
  induction l with
  | nil => rfl
  | cons a l ih =>
    rw [firstErr, if_pos (h a (by simp))]
    exact ih fun x hx => h x (by simp [hx])
theorem firstErr_at {l : List Int} {i : Nat} (hi : i < l.length) (h : ∀ j, (hj : j < i) → l[j] = 0) (hn : l[i] ≠ 0) : firstErr l = l[i] := by
  induction l generalizing i with
  | nil => simp at hi
  | cons a l ih =>
    cases i with
    | zero => simp at hn ⊢; rw [firstErr, if_neg hn]
    | succ i =>
      have h0 := h 0 (by omega)
      simp at h0
      rw [firstErr, if_pos h0]
      simp at hn ⊢
      exact ih (by simpa using hi) (fun j hj => by simpa using h (j + 1) (by omega)) hn
theorem fault_kind {r : Nat} {d : DataW H} (h : dKind d < 1 ∨ 4 < dKind d) : fault r d = 3 := by
  cases r <;> simp only [fault] <;> rw [if_pos h]
theorem fault_deep {d : DataW H} (h : ¬ (dKind d < 1 ∨ 4 < dKind d)) : fault 0 d = 8 := by
  simp only [fault]; rw [if_neg h]
theorem fault_head {r : Nat} {d : DataW H} (h : ¬ (dKind d < 1 ∨ 4 < dKind d)) {e : Int} (he : headFault (dKind d) (dN d) (nameB (dS d)) (dS d).length (dItems d).length = e) (hne : e ≠ 0) : fault (r + 1) d = e := by
  simp only [fault]; rw [if_neg h, he, if_pos hne]
theorem fault_items {r : Nat} {d : DataW H} (h : ¬ (dKind d < 1 ∨ 4 < dKind d)) (he : headFault (dKind d) (dN d) (nameB (dS d)) (dS d).length (dItems d).length = 0) : fault (r + 1) d = firstErr ((dItems d).map (fault r)) := by
  simp only [fault]; rw [if_neg h, he, if_neg (by simp)]
theorem fault_mk_kind {r : Nat} {k n : Int} {s : List UInt8} {it : DataW H} (hk : k < 1 ∨ 4 < k) : fault r (.agg [.lit (.int .i64 k), .lit (.int .i64 n), .lit (.string s), it]) = 3 := fault_kind hk
theorem fault_mk_deep {k n : Int} {s : List UInt8} {it : DataW H} (hk : 1 ≤ k ∧ k ≤ 4) : fault 0 (.agg [.lit (.int .i64 k), .lit (.int .i64 n), .lit (.string s), it]) = 8 := fault_deep (by simp only [dKind]; omega)
theorem fault_mk_bad {r : Nat} {k n e : Int} {s : List UInt8} {it : DataW H} (hk : 1 ≤ k ∧ k ≤ 4) (he : headFault k n (nameB s) s.length (elems it).length = e) (hne : e ≠ 0) :
    fault (r + 1) (.agg [.lit (.int .i64 k), .lit (.int .i64 n), .lit (.string s), it]) = e := fault_head (by simp only [dKind]; omega) he hne
theorem fault_mk_ok {r : Nat} {k n : Int} {s : List UInt8} {it : DataW H} (hk : 1 ≤ k ∧ k ≤ 4) (he : headFault k n (nameB s) s.length (elems it).length = 0) :
    fault (r + 1) (.agg [.lit (.int .i64 k), .lit (.int .i64 n), .lit (.string s), it]) = firstErr ((elems it).map (fault r)) := fault_items (by simp only [dKind]; omega) he
end
end Go.Proofs.YtbkagjngckfonaaDoor
