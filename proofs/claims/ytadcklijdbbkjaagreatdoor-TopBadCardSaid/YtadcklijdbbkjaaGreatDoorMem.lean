/- How values of this program read in memory: 'Rd w t cs d': the cells cs of type t read, in w, as the datum d. It stays while memory below the heap's end stays. -/
import Derived.Test.YtadcklijdbbkjaaGreatDoorRows
import Derived.Test.YtadcklijdbbkjaaGreatDoorPlain
import Derived.WalkKit
import Derived.ProofKit
import Derived.Deep.Slices
import Derived.ChangeStays
namespace Go.Proofs.YtadcklijdbbkjaaGreatDoor
open Go.RowKit Go.ChangeShapes Go.WideShapes Go.Deep
set_option linter.unusedVariables false

theorem laidOut : laidOutB Tryz.prog = true := by kernel_rfl

section
variable {H : Type} {enc : TypeId × Value → H}

/-- The cells read as a datum (all that the arguments' reading reads: spare places too). -/
def Rd (enc : TypeId × Value → H) (w : World) (t : TypeId) (cs : List Value) (d : DataW H) : Prop :=
  ∃ n ps, DataW.trod enc Tryz.prog w 0 (fun _ => true) true n t cs = some (d, ps)

theorem Rd.below {w w' : World} {t : TypeId} {cs : List Value} {d : DataW H} (hr : Tryz.prog.readableRec t = true) (ht : t < Tryz.prog.types.size) (h : Rd enc w t cs d) (hb : Below w.heap.size w w') : Rd enc w' t cs d := by
  obtain ⟨n, ps, h⟩ := h
  exact ⟨n, ps, DataW.trod_stays (kids_book laidOut hr) (book_sized hr) (fun h => by cases h) ⟨ht, book_self t⟩ h (fun x hx => hb.same (DataW.trod_lt _ _ _ _ h x hx)) (fun _ _ => rfl)⟩

theorem Rd.int {w : World} {t : TypeId} {cs : List Value} {d : DataW H} (ht : Tryz.prog.underlying t = some (.int .i64)) (h : Rd enc w t cs d) :
    ∃ n : Int, cs = [.int .i64 n] ∧ d = .lit (.int .i64 n) ∧ -9223372036854775808 ≤ n ∧ n ≤ 9223372036854775807 := by
  obtain ⟨f, ps, h⟩ := h
  obtain ⟨n, hc, hx, hw⟩ := DataW.trod_int ht h
  simp only [Prod.mk.injEq] at hx
  have hx' : -9223372036854775808 ≤ n ∧ n ≤ 9223372036854775807 := by simpa [Lit.wf, IntKind.min, IntKind.max, IntKind.signed, IntKind.bits] using hw
  exact ⟨n, hc, hx.1, hx'⟩

theorem Rd.string {w : World} {t : TypeId} {cs : List Value} {d : DataW H} (ht : Tryz.prog.underlying t = some .string) (h : Rd enc w t cs d) :
    ∃ s : ByteArray, cs = [.string s] ∧ d = .lit (.string s.data.toList) ∧ s.size ≤ maxLen := by
  obtain ⟨f, ps, h⟩ := h
  obtain ⟨s, hc, hx, hw⟩ := DataW.trod_string ht h
  simp only [Prod.mk.injEq] at hx
  exact ⟨s, hc, hx.1, hw⟩

/-- The elements of a slice's datum. -/
def elems : DataW H → List (DataW H)
  | .slice es _ => es
  | _ => []

/-- A row of cells at an address. -/
def RowAt (w : World) (b o : Nat) (cs : List Value) : Prop := ∀ j, j < cs.length → w.cell? ⟨b, o + j, none⟩ = cs[j]?

theorem RowAt.lt {w : World} {b o : Nat} {cs : List Value} (h : RowAt w b o cs) (hc : 0 < cs.length) : b < w.heap.size := by
  have := h 0 hc
  rw [List.getElem?_eq_getElem hc] at this
  unfold World.cell? at this
  split at this
  · rename_i e; exact (Array.getElem?_eq_some_iff.1 e).1
  · cases this

theorem spot_of {w : World} {a : Addr} {v : Value} (h : w.cell? a = some v) : a = ⟨a.block, a.off, none⟩ := by
  unfold World.cell? at h
  split at h
  · split at h
    · cases h
    · rename_i hs
      obtain ⟨b, o, s⟩ := a
      cases s
      · rfl
      · simp at hs
  · cases h

theorem Rd.slice {w : World} {t e C : Nat} {cs : List Value} {d : DataW H} (ht : Tryz.prog.underlying t = some (.slice e)) (hC : Tryz.prog.cellsOf e = C) (hC0 : 0 < C) (h : Rd enc w t cs d) :
    ∃ (A : Option Addr) (len cap : Nat), cs = [.slice A len cap] ∧ len ≤ cap ∧ cap ≤ maxLen ∧ (elems d).length = len ∧ (len = 0 → d = .nil ∨ ∃ r, d = .slice [] r) ∧
      (0 < len → ∃ b o, A = some ⟨b, o, none⟩ ∧ b < w.heap.size ∧ ∀ i, (hi : i < (elems d).length) → ∃ cs', cs'.length = C ∧ RowAt w b (o + i * C) cs' ∧ Rd enc w e cs' (elems d)[i]) := by
  obtain ⟨f, ps, h⟩ := h
  rcases open_slice ht h with ⟨hc, hx⟩ | ⟨a, len, cap, m, n, D, Pl, hc, hb, hl, hm, hmm, hx, hi⟩
  · simp only [Prod.mk.injEq] at hx
    obtain ⟨rfl, _⟩ := hx
    exact ⟨none, 0, 0, hc, by omega, by unfold maxLen; omega, rfl, fun _ => Or.inl rfl, fun h => absurd h (by omega)⟩
  · simp only [Prod.mk.injEq] at hx
    obtain ⟨rfl, _⟩ := hx
    refine ⟨some a, len, cap, hc, hl, hm, by simp [elems], fun h0 => Or.inr ⟨_, by rw [h0]; rfl⟩, fun hpos => ?_⟩
    simp only [if_true] at hmm
    have hrow : ∀ i, i < len → ∃ cs', cs'.length = C ∧ (∀ j, j < C → w.cell? ((a.add (i * C)).add j) = cs'[j]?) ∧ Rd enc w e cs' (D i) := by
      intro i hlt
      obtain ⟨cs', hcs, hr⟩ := hi i (by omega)
      obtain ⟨_, hlen, hat⟩ := World.cells?_some hcs
      rw [hC] at hlen hat
      exact ⟨cs', hlen, hat, n, _, hr⟩
    obtain ⟨cs0, hl0, hat0, _⟩ := hrow 0 hpos
    have h00 := hat0 0 hC0
    rw [List.getElem?_eq_getElem (by omega)] at h00
    have ha : a = ⟨a.block, a.off, none⟩ := by
      have e1 : (a.add (0 * C)).add 0 = a := by simp [Addr.add]
      rw [e1] at h00
      exact spot_of h00
    obtain ⟨b, o, s⟩ := a
    simp only [Addr.mk.injEq, true_and] at ha
    subst ha
    have hadd : ∀ i j, (Addr.add ⟨b, o, none⟩ (i * C)).add j = ⟨b, o + i * C + j, none⟩ := by
      intro i j
      unfold Addr.add
      by_cases h1 : i * C = 0 <;> by_cases h2 : j = 0 <;> simp [h1, h2]
    refine ⟨b, o, rfl, ?_, ?_⟩
    · have e2 := hadd 0 0
      rw [e2] at h00
      unfold World.cell? at h00
      split at h00
      · rename_i e; exact (Array.getElem?_eq_some_iff.1 e).1
      · cases h00
    · intro i hlt
      have hlt' : i < len := by simpa [elems] using hlt
      obtain ⟨cs', h1, h2, h3⟩ := hrow i hlt'
      refine ⟨cs', h1, ?_, ?_⟩
      · intro j hj
        rw [← h2 j (by omega), hadd]
      · have e3 : (elems (DataW.slice (List.map D (List.range len)) (List.map (fun j => D (len + j)) (List.range (m - len)))))[i] = D i := by simp [elems]
        rw [e3]; exact h3

theorem RowAt.below {w w' : World} {b o : Nat} {cs : List Value} {B : Nat} (h : RowAt w b o cs) (hb : Below B w w') (hB : b < B) : RowAt w' b o cs :=
  fun j hj => (hb.cell (p := ⟨b, o + j, none⟩) hB).trans (h j hj)

end
end Go.Proofs.YtadcklijdbbkjaaGreatDoor
