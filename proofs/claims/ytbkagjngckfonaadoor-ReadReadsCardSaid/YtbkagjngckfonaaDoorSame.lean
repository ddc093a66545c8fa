/- Contracts of grafterylaw.sameData and sameDatum: true of two alike. -/
import Derived.Test.YtbkagjngckfonaaDoorReadP
namespace Go.Proofs.YtbkagjngckfonaaDoor
open Go.RowKit Go.ChangeShapes Go.WideShapes Go.Deep
set_option linter.unusedVariables false

/-- A list's rows, opened. -/
structure ListAt (w : World) (lo hi : Nat) (A : Option Addr) (cap : Nat) (l : List Dt) (cs : List (List Value)) : Prop where
  len : cs.length = l.length
  le : l.length ≤ cap
  cap_ : cap ≤ maxLen
  row : RowIn w lo hi A cs
  each : ∀ i, (h : i < l.length) → (h' : i < cs.length) → DtIn w lo hi cs[i] l[i]
theorem DtIn.open_ {w : World} {lo hi : Nat} {k n : Int} {t : ByteArray} {l : List Dt} {c : List Value} (h : DtIn w lo hi c (.mk k n t l)) : ∃ A cap cs, c = [.int .i64 k, .int .i64 n, .string t, .slice A l.length cap] ∧ ListAt w lo hi A cap l cs := by
  cases h with
  | mk _ _ _ A cap _ cs hl a1 a2 row each => exact ⟨A, cap, cs, rfl, hl, a1, a2, row, each⟩
theorem DtIn.keep {w w' : World} {lo hi : Nat} {c : List Value} {t : Dt} (h : DtIn w lo hi c t) (hb : Below w.heap.size w w') : DtIn w' lo hi c t := h.mono (keep_new hb) hb.size (Nat.le_refl _) (Nat.le_refl _)
theorem ListAt.below {w w' : World} {lo hi : Nat} {A : Option Addr} {cap : Nat} {l : List Dt} {cs : List (List Value)} (h : ListAt w lo hi A cap l cs) (hb : Below w.heap.size w w') : ListAt w' lo hi A cap l cs :=
  ⟨h.len, h.le, h.cap_, h.row.mono (keep_new hb) hb.size (Nat.le_refl _) (Nat.le_refl _), fun i h1 h2 => (h.each i h1 h2).keep hb⟩
def Alike (w : World) (e : Ending) (w' : World) : Prop := e = .returned (.bool true) ∧ Below w.heap.size w w'
/-- sameDatum's contract at a tree. -/
def SameD (t : Dt) : Prop := ∀ (w : World) (lo hi lo' hi' : Nat) (c c' : List Value), DtIn w lo hi c t → DtIn w lo' hi' c' t → Calls Tryd.prog 20 #[.agg c.toArray, .agg c'.toArray] w (Alike w)

set_option maxHeartbeats 4000000 in
set_option maxRecDepth 20000 in
theorem sameData_of (l : List Dt) (hS : ∀ t ∈ l, SameD t) (w : World) (lo hi lo' hi' : Nat) (A A' : Option Addr) (cap cap' : Nat) (cs cs' : List (List Value)) (h : ListAt w lo hi A cap l cs) (h' : ListAt w lo' hi' A' cap' l cs') :
    Calls Tryd.prog 9 #[.slice A l.length cap, .slice A' l.length cap'] w (Alike w) := by
  have HS := Lib.hid hS
  have H := Lib.hid h
  have H' := Lib.hid h'
  obtain ⟨n, hn⟩ : ∃ n, l.length = n := ⟨_, rfl⟩
  have hcap := h.cap_
  have hle := h.le
  have HN := Lib.hid hn
  rw [hn] at hle ⊢
  have hnm : n ≤ 9223372036854775807 := by unfold maxLen at hcap; omega
  clear hS h h' hcap hle hn
  go_enter Tryd.func9, Tryd.ntmps9
  go_wp2_with fail
  go_loopg [5] n (fun g x wr => ∃ k : Nat, g = n - k ∧ k ≤ n ∧ x = .int .i64 k ∧ Below w.heap.size w wr)
  case atStart => exact ⟨0, rfl, Nat.zero_le _, rfl, Below.refl _ _⟩
  case round =>
    obtain ⟨k, hg, hk, rfl, hb⟩ := hrel
    have HG := Lib.hid hg
    have HB := Lib.hid hb
    clear hg hb
    by_cases hlt : k < n
    · have hlt' : k < l.length := by rw [HN.out]; exact hlt
      have L := H.out.below HB.out
      have L' := H'.out.below HB.out
      obtain ⟨b, o, rfl, _, _, hbw, hrow⟩ := L.row (by rw [L.len]; omega)
      obtain ⟨b', o', rfl, _, _, hbw', hrow'⟩ := L'.row (by rw [L'.len]; omega)
      have hk1 : k < cs.length := by rw [L.len]; exact hlt'
      have hk2 : k < cs'.length := by rw [L'.len]; exact hlt'
      have d1 := L.each k hlt' hk1
      have d2 := L'.each k hlt' hk2
      have r1 := hrow k hk1
      have r2 := hrow' k hk2
      obtain ⟨t, ht⟩ : ∃ t, l[k] = t := ⟨_, rfl⟩
      have hST := HS.out l[k] (List.getElem_mem hlt')
      rw [ht] at d1 d2 hST
      have HST := Lib.hid hST
      obtain ⟨kk, nn, ss, ll⟩ := t
      have D1 := Lib.hid d1
      have D2 := Lib.hid d2
      obtain ⟨A1, c1, q1, e1, _⟩ := d1.open_
      obtain ⟨A2, c2, q2, e2, _⟩ := d2.open_
      rw [e1] at D1 r1
      rw [e2] at D2 r2
      have m10 : wr.cell? ⟨b, o + k * 4, none⟩ = some (.int .i64 kk) := r1 0 (by simp)
      have m11 : wr.cell? ⟨b, o + k * 4 + 1, none⟩ = some (.int .i64 nn) := r1 1 (by simp)
      have m12 : wr.cell? ⟨b, o + k * 4 + 2, none⟩ = some (.string ss) := r1 2 (by simp)
      have m13 : wr.cell? ⟨b, o + k * 4 + 3, none⟩ = some (.slice A1 ll.length c1) := r1 3 (by simp)
      have m20 : wr.cell? ⟨b', o' + k * 4, none⟩ = some (.int .i64 kk) := r2 0 (by simp)
      have m21 : wr.cell? ⟨b', o' + k * 4 + 1, none⟩ = some (.int .i64 nn) := r2 1 (by simp)
      have m22 : wr.cell? ⟨b', o' + k * 4 + 2, none⟩ = some (.string ss) := r2 2 (by simp)
      have m23 : wr.cell? ⟨b', o' + k * 4 + 3, none⟩ = some (.slice A2 ll.length c2) := r2 3 (by simp)
      have y0 : (0 : Int) ≤ (k : Int) := Int.natCast_nonneg _
      have y1 : (k : Int) < (n : Int) := by omega
      clear r1 r2 d1 d2 e1 e2 hrow hrow' L L' hST hk1 hk2 ht
      go_wp2_with fail
      go_region_held3 (fun w' => w'.cell? ⟨b, o + k * 4, none⟩ = some (.int .i64 kk) ∧ w'.cell? ⟨b, o + k * 4 + 1, none⟩ = some (.int .i64 nn) ∧ w'.cell? ⟨b, o + k * 4 + 2, none⟩ = some (.string ss) ∧ w'.cell? ⟨b, o + k * 4 + 3, none⟩ = some (.slice A1 ll.length c1) ∧ w'.cell? ⟨b', o' + k * 4, none⟩ = some (.int .i64 kk) ∧ w'.cell? ⟨b', o' + k * 4 + 1, none⟩ = some (.int .i64 nn) ∧ w'.cell? ⟨b', o' + k * 4 + 2, none⟩ = some (.string ss) ∧ w'.cell? ⟨b', o' + k * 4 + 3, none⟩ = some (.slice A2 ll.length c2)) (go_keep)
        (first | (go_at_call 20; refine (HST.out _ lo hi lo' hi' _ _ (D1.out.keep (show Below wr.heap.size wr wr.drew from (Below.refl _ _).drew)) (D2.out.keep (show Below wr.heap.size wr wr.drew from (Below.refl _ _).drew))).mono ?_; rintro e w5 ⟨rfl, hb5⟩; have HB5 := Lib.hid (HB.out.trans ((Below.refl wr.heap.size wr).drew.trans hb5 |>.mono HB.out.size)); have m10' : w5.cell? ⟨b, o + k * 4, none⟩ = some (.int .i64 kk) := (hb5.cell (p := ⟨b, o + k * 4, none⟩) hbw).trans m10; have m11' : w5.cell? ⟨b, o + k * 4 + 1, none⟩ = some (.int .i64 nn) := (hb5.cell (p := ⟨b, o + k * 4 + 1, none⟩) hbw).trans m11; have m12' : w5.cell? ⟨b, o + k * 4 + 2, none⟩ = some (.string ss) := (hb5.cell (p := ⟨b, o + k * 4 + 2, none⟩) hbw).trans m12; have m13' : w5.cell? ⟨b, o + k * 4 + 3, none⟩ = some (.slice A1 ll.length c1) := (hb5.cell (p := ⟨b, o + k * 4 + 3, none⟩) hbw).trans m13; have m20' : w5.cell? ⟨b', o' + k * 4, none⟩ = some (.int .i64 kk) := (hb5.cell (p := ⟨b', o' + k * 4, none⟩) hbw').trans m20; have m21' : w5.cell? ⟨b', o' + k * 4 + 1, none⟩ = some (.int .i64 nn) := (hb5.cell (p := ⟨b', o' + k * 4 + 1, none⟩) hbw').trans m21; have m22' : w5.cell? ⟨b', o' + k * 4 + 2, none⟩ = some (.string ss) := (hb5.cell (p := ⟨b', o' + k * 4 + 2, none⟩) hbw').trans m22; have m23' : w5.cell? ⟨b', o' + k * 4 + 3, none⟩ = some (.slice A2 ll.length c2) := (hb5.cell (p := ⟨b', o' + k * 4 + 3, none⟩) hbw').trans m23; clear hb5))
      go_wp2_with fail
      go_roundg (n - (k + 1))
      case measure => have := HG.out; omega
      case rel => exact ⟨k + 1, rfl, by omega, by go_num, by first | exact HB5.out | exact HB5.out.drew⟩
    · obtain rfl : k = n := by omega
      go_wp2_with fail
      go_ret
      exact ⟨rfl, HB.out⟩

set_option maxHeartbeats 2000000 in
set_option maxRecDepth 20000 in
theorem sameDatum_of (k n : Int) (s : ByteArray) (l : List Dt) (hS : ∀ t ∈ l, SameD t) : SameD (.mk k n s l) := by
  intro w lo hi lo' hi' c c' h h'
  obtain ⟨A, cap, cs, rfl, hl⟩ := h.open_
  obtain ⟨A', cap', cs', rfl, hl'⟩ := h'.open_
  have HS := Lib.hid hS
  have HL := Lib.hid hl
  have HL' := Lib.hid hl'
  have hb : Below w.heap.size w ((w.alloc (.cells #[.int .i64 k, .int .i64 n, .string s, .slice A l.length cap] 24)).alloc (.cells #[.int .i64 k, .int .i64 n, .string s, .slice A' l.length cap'] 24)) := ((Below.refl _ _).alloc (Nat.le_refl _) _).alloc (by simp) _
  have HB := Lib.hid hb
  clear h h' hS hl hl' hb
  go_enter Tryd.func20, Tryd.ntmps20
  go_wp2_with fail
  refine (sameData_of l HS.out _ lo hi lo' hi' A A' cap cap' cs cs' (HL.out.below HB.out) (HL'.out.below HB.out)).mono ?_
  rintro e w5 ⟨rfl, hb5⟩
  have HB5 := Lib.hid (HB.out.trans (hb5.mono HB.out.size))
  clear hb5
  go_wp2_with fail
  go_ret
  exact ⟨rfl, HB5.out⟩
theorem sameDatum_all : ∀ (n : Nat) (t : Dt), SizeOf.sizeOf t ≤ n → SameD t := by
  intro n
  induction n with
  | zero => intro t h; cases t with | mk k n s l => simp at h
  | succ n ih =>
    intro t h
    cases t with
    | mk k m s l =>
      refine sameDatum_of k m s l fun x hx => ih x ?_
      have := List.sizeOf_lt_of_mem hx
      simp only [Dt.mk.sizeOf_spec] at h
      omega
theorem sameData_any (l : List Dt) (w : World) (lo hi lo' hi' : Nat) (A A' : Option Addr) (cap cap' : Nat) (k n k' n' : Int) (t t' : ByteArray) (h : DtIn w lo hi [.int .i64 k, .int .i64 n, .string t, .slice A l.length cap] (.mk k n t l)) (h' : DtIn w lo' hi' [.int .i64 k', .int .i64 n', .string t', .slice A' l.length cap'] (.mk k' n' t' l)) :
    Calls Tryd.prog 9 #[.slice A l.length cap, .slice A' l.length cap'] w (Alike w) := by
  obtain ⟨B, c, cs, e, hl⟩ := h.open_
  obtain ⟨B', c', cs', e', hl'⟩ := h'.open_
  simp only [List.cons.injEq, Value.slice.injEq, true_and, and_true] at e e'
  obtain ⟨rfl, rfl⟩ := e
  obtain ⟨rfl, rfl⟩ := e'
  exact sameData_of l (fun t _ => sameDatum_all _ t (Nat.le_refl _)) w lo hi lo' hi' A A' cap cap' cs cs' hl hl'
end Go.Proofs.YtbkagjngckfonaaDoor
