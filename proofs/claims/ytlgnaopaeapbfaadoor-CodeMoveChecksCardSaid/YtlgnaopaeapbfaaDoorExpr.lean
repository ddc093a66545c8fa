/- Expressions (api.Expr) in memory as trees, and what code.Check and grafteryref.CodeFault answer of one. -/
import Derived.Test.YtlgnaopaeapbfaaDoorShape
namespace Go.Proofs.YtlgnaopaeapbfaaDoor
open Go.RowKit Go.ChangeShapes Go.WideShapes Go.Deep
set_option linter.unusedVariables false

theorem readableExpr : Tryd.prog.readableRec 38 = true := by kernel_rfl
theorem rowExpr : 38 < Tryd.prog.types.size := of_decide_eq_true (by kernel_rfl)
theorem cellsExpr : Tryd.prog.cellsOf 38 = 9 := by kernel_rfl
theorem cellsSlExpr : Tryd.prog.cellsOf 36 = 1 := by kernel_rfl

/-- What an expression's own cells say, its arguments put aside; 'df': what is wrong with its datum. -/
structure ExHead where
  kind : Int
  df : Int
  S : ByteArray
  N : Int
  names : List ByteArray

/-- Expressions of so many levels. -/
def Tr : Nat → Type
  | 0 => Unit
  | n + 1 => ExHead × List (Tr n)

section
variable {H : Type} (enc : TypeId × Value → H)

/-- The nine cells. -/
structure ExC (w : World) (cs : List Value) (h : ExHead) (dk dn : Int) (ds : ByteArray) (dA : Option Addr) (dl dc : Nat) (An : Option Addr) (nl nc : Nat) (Aa : Option Addr) (al ac : Nat) : Prop where
  cells : cs = [.int .i64 h.kind, .int .i64 dk, .int .i64 dn, .string ds, .slice dA dl dc, .string h.S, .int .i64 h.N, .slice An nl nc, .slice Aa al ac]
  kindR : -9223372036854775808 ≤ h.kind ∧ h.kind ≤ 9223372036854775807
  nR : -9223372036854775808 ≤ h.N ∧ h.N ≤ 9223372036854775807
  wide : h.S.size ≤ maxLen
  df : ∃ dd : DataW H, Rd enc w 35 [.int .i64 dk, .int .i64 dn, .string ds, .slice dA dl dc] dd ∧ fault 40 dd = h.df
  names : StrsAt w An nl h.names
  each : ∀ s ∈ h.names, s.size ≤ maxLen
  nle : nl ≤ nc
  ncap : nc ≤ maxLen
  ale : al ≤ ac
  acap : ac ≤ maxLen

theorem ExC.below {enc : TypeId × Value → H} {w w' : World} {cs : List Value} {h : ExHead} {dk dn : Int} {ds : ByteArray} {dA : Option Addr} {dl dc : Nat} {An : Option Addr} {nl nc : Nat} {Aa : Option Addr} {al ac : Nat}
    (hx : ExC enc w cs h dk dn ds dA dl dc An nl nc Aa al ac) (hb : Below w.heap.size w w') : ExC enc w' cs h dk dn ds dA dl dc An nl nc Aa al ac :=
  ⟨hx.cells, hx.kindR, hx.nR, hx.wide, by obtain ⟨dd, h1, h2⟩ := hx.df; exact ⟨dd, h1.below readableDatum rowDatum hb, h2⟩, hx.names.below hb, hx.each, hx.nle, hx.ncap, hx.ale, hx.acap⟩

def ExAt (w : World) : (n : Nat) → List Value → Tr n → Prop
  | 0, _, _ => False
  | n + 1, cs, x => ∃ dk dn ds dA dl dc An nl nc Aa al ac, ExC enc w cs x.1 dk dn ds dA dl dc An nl nc Aa al ac ∧ x.2.length = al ∧
      (0 < al → ∃ b o, Aa = some ⟨b, o, none⟩ ∧ b < w.heap.size ∧ ∀ i, (hi : i < x.2.length) → ∃ cs', cs'.length = 9 ∧ RowAt w b (o + i * 9) cs' ∧ ExAt w n cs' x.2[i])

theorem ExAt.below {enc : TypeId × Value → H} {w w' : World} (hb : Below w.heap.size w w') : {n : Nat} → {cs : List Value} → {x : Tr n} → ExAt enc w n cs x → ExAt enc w' n cs x
  | 0, _, _, h => h.elim
  | n + 1, cs, x, h => by
    obtain ⟨dk, dn, ds, dA, dl, dc, An, nl, nc, Aa, al, ac, h1, h2, h3⟩ := h
    refine ⟨dk, dn, ds, dA, dl, dc, An, nl, nc, Aa, al, ac, h1.below hb, h2, fun h0 => ?_⟩
    obtain ⟨b, o, rfl, hbw, hrow⟩ := h3 h0
    refine ⟨b, o, rfl, Nat.lt_of_lt_of_le hbw hb.size, fun i hi => ?_⟩
    obtain ⟨cs', hl, hr, he⟩ := hrow i hi
    exact ⟨cs', hl, hr.below hb hbw, ExAt.below hb he⟩

theorem Rd.expr {enc : TypeId × Value → H} {w : World} : (n : Nat) → {cs : List Value} → {d : DataW H} → SizeOf.sizeOf d ≤ n → Rd enc w 38 cs d → ∃ (x : Tr n), ExAt enc w n cs x
  | 0, cs, d, hn, h => by
    exfalso
    have : 0 < SizeOf.sizeOf d := by cases d <;> simp <;> omega
    omega
  | n + 1, cs, d, hn, h => by
    obtain ⟨f, ps, h⟩ := h
    obtain ⟨xs, m, _, hx, hl, hlen, hf⟩ := DataW.trod_struct Tryd.underlying38 h
    rw [cellsExpr] at hl
    match cs, hl, xs, hlen with
    | [c0, c1, c2, c3, c4, c5, c6, c7, c8], _, [y0, y1, y2, y3, y4, y5], _ =>
      simp only [Prod.mk.injEq] at hx
      have h0 : Rd enc w 3 [c0] y0.1 := ⟨m, y0.2, by simpa [cellsInt] using hf 0 _ rfl⟩
      have h1 : Rd enc w 35 [c1, c2, c3, c4] y1.1 := ⟨m, y1.2, by simpa [cellsDatum] using hf 1 _ rfl⟩
      have h2 : Rd enc w 9 [c5] y2.1 := ⟨m, y2.2, by simpa [cellsString] using hf 2 _ rfl⟩
      have h3 : Rd enc w 3 [c6] y3.1 := ⟨m, y3.2, by simpa [cellsInt] using hf 3 _ rfl⟩
      have h4 : Rd enc w 22 [c7] y4.1 := ⟨m, y4.2, by simpa [cellsSlString] using hf 4 _ rfl⟩
      have h5 : Rd enc w 36 [c8] y5.1 := ⟨m, y5.2, by simpa [cellsSlExpr] using hf 5 _ rfl⟩
      obtain ⟨k, e0, d0, k1, k2⟩ := h0.int Tryd.underlying3
      obtain ⟨dk, dn, ds, dA, dl, dc, _, e1, _, _, _, _, _⟩ := h1.datum
      obtain ⟨s, e2, d2, s1⟩ := h2.string Tryd.underlying9
      obtain ⟨nn, e3, d3, n1, n2⟩ := h3.int Tryd.underlying3
      obtain ⟨An, nl, nc, e4, hs⟩ := h4.slAt Tryd.underlying22 cellsString (by decide)
      obtain ⟨Aa, al, ac, e5, ha⟩ := h5.slAt Tryd.underlying36 cellsExpr (by decide)
      simp only [List.cons.injEq, and_true] at e0 e1 e2 e3 e4 e5
      obtain ⟨rfl, rfl, rfl, rfl⟩ := e1
      subst e0 e2 e3 e4 e5
      obtain ⟨ss, hss, hev⟩ := slAt_strs hs
      have hel : ∀ i : Fin al, ∃ x : Tr n, ∀ b o, Aa = some ⟨b, o, none⟩ → ∃ cs', cs'.length = 9 ∧ RowAt w b (o + i.1 * 9) cs' ∧ ExAt enc w n cs' x := by
        intro i
        obtain ⟨b, o, rfl, hb, hrow⟩ := ha.at_ (Nat.lt_of_le_of_lt (Nat.zero_le _) i.2)
        have hie : i.1 < (elems y5.1).length := by rw [ha.size]; exact i.2
        obtain ⟨cs', hl', hr', hd'⟩ := hrow i.1 hie
        have hsz : SizeOf.sizeOf (elems y5.1)[i.1] ≤ n := by
          have h1 : SizeOf.sizeOf d = SizeOf.sizeOf (DataW.agg [y0.1, y1.1, y2.1, y3.1, y4.1, y5.1]) := by rw [hx.1]; rfl
          have h2 : SizeOf.sizeOf (elems y5.1)[i.1] < SizeOf.sizeOf y5.1 := by
            have hm := List.getElem_mem hie
            have := List.sizeOf_lt_of_mem hm
            have h4 : SizeOf.sizeOf (elems y5.1) ≤ SizeOf.sizeOf y5.1 := by
              cases y5.1 <;> simp [elems] <;> omega
            omega
          simp at h1
          omega
        obtain ⟨x, hx'⟩ := Rd.expr n hsz hd'
        refine ⟨x, fun b' o' hA => ?_⟩
        simp only [Option.some.injEq, Addr.mk.injEq, and_true] at hA
        obtain ⟨rfl, rfl⟩ := hA
        exact ⟨cs', hl', hr', hx'⟩
      obtain ⟨g, hg⟩ := Classical.axiomOfChoice hel
      refine ⟨(⟨k, fault 40 y1.1, s, nn, ss⟩, List.ofFn g), dk, dn, ds, dA, dl, dc, An, nl, nc, Aa, al, ac, ⟨rfl, ⟨k1, k2⟩, ⟨n1, n2⟩, s1, ⟨y1.1, h1, rfl⟩, hss, hev, hs.le, hs.wide, ha.le, ha.wide⟩, by simp, fun h0 => ?_⟩
      obtain ⟨b, o, rfl, hb, hrow⟩ := ha.at_ h0
      refine ⟨b, o, rfl, hb, fun i hi => ?_⟩
      have hi' : i < al := by simpa using hi
      obtain ⟨cs', h1', h2', h3'⟩ := hg ⟨i, hi'⟩ b o rfl
      refine ⟨cs', h1', h2', ?_⟩
      rw [List.getElem_ofFn]
      exact h3'
end

/-! ### what the two answer -/
/-- No name twice among these, and each may be bound. -/
def freshL : List ByteArray → List ByteArray → Bool
  | _, [] => true
  | pre, s :: r => freeB s && !inL pre s && freshL (pre ++ [s]) r
def kindB (k : Int) : Bool := decide (1 ≤ k ∧ k ≤ 15)
end Go.Proofs.YtlgnaopaeapbfaaDoor
