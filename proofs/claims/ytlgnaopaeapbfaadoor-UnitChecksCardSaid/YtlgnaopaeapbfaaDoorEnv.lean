/- Slices of shapes in memory; contracts of slices.IndexFunc, slices.ContainsFunc (at the closure of unit.Check), grafteryref.shapeAt. -/
import Derived.Test.YtlgnaopaeapbfaaDoorShape
namespace Go.Proofs.YtlgnaopaeapbfaaDoor
open Go.RowKit Go.ChangeShapes Go.WideShapes Go.Deep Go.ChangeAt
set_option linter.unusedVariables false

/-- A shape that lies in memory. -/
structure Shp where
  name : ByteArray
  A : Option Addr
  len : Nat
  cap : Nat
  ss : List ByteArray

def Shp.cells (x : Shp) : List Value := [.string x.name, .slice x.A x.len x.cap]
def Shp.At (w : World) (x : Shp) : Prop := ShapeAt w [.string x.name, .slice x.A x.len x.cap] x.name x.A x.len x.cap x.ss

structure ShapesAt (w : World) (A : Option Addr) (len : Nat) (L : List Shp) : Prop where
  size : L.length = len
  at_ : 0 < len → ∃ b o, A = some ⟨b, o, none⟩ ∧ b < w.heap.size ∧ ∀ i, (h : i < L.length) → w.cell? ⟨b, o + i * 2, none⟩ = some (.string L[i].name) ∧ w.cell? ⟨b, o + i * 2 + 1, none⟩ = some (.slice L[i].A L[i].len L[i].cap)
  each : ∀ x ∈ L, x.At w

theorem ShapesAt.below {w w' : World} {A : Option Addr} {len : Nat} {L : List Shp} (h : ShapesAt w A len L) (hb : Below w.heap.size w w') : ShapesAt w' A len L :=
  ⟨h.size, fun h0 => by
    obtain ⟨b, o, rfl, hl, hc⟩ := h.at_ h0
    exact ⟨b, o, rfl, Nat.lt_of_lt_of_le hl hb.size, fun i hi => ⟨(hb.cell (p := ⟨b, o + i * 2, none⟩) hl).trans (hc i hi).1, (hb.cell (p := ⟨b, o + i * 2 + 1, none⟩) hl).trans (hc i hi).2⟩⟩,
   fun x hx => ShapeAt.below (h.each x hx) hb⟩
theorem ShapesAt.take {w : World} {A : Option Addr} {len : Nat} {L : List Shp} (h : ShapesAt w A len L) {k : Nat} (hk : k ≤ len) : ShapesAt w A k (L.take k) :=
  ⟨by rw [List.length_take, h.size]; omega, fun h0 => by
    obtain ⟨b, o, rfl, hb, hc⟩ := h.at_ (by omega)
    exact ⟨b, o, rfl, hb, fun i hi => by rw [List.getElem_take]; exact hc i (by rw [List.length_take] at hi; omega)⟩,
   fun x hx => h.each x (List.mem_of_mem_take hx)⟩

section
variable {H : Type} {enc : TypeId × Value → H}
theorem slAt_shapes {w : World} {A : Option Addr} {len cap : Nat} {it : DataW H} (h : SlAt enc w 24 2 A len cap it) : ∃ L : List Shp, ShapesAt w A len L := by
  rcases Nat.eq_zero_or_pos len with h0 | h0
  · subst h0
    exact ⟨[], ⟨rfl, fun h => absurd h (by omega), by simp⟩⟩
  · obtain ⟨b, o, rfl, hb, hrow⟩ := h.at_ h0
    have hx : ∀ i : Fin len, ∃ x : Shp, (w.cell? ⟨b, o + i.1 * 2, none⟩ = some (.string x.name) ∧ w.cell? ⟨b, o + i.1 * 2 + 1, none⟩ = some (.slice x.A x.len x.cap)) ∧ x.At w := by
      intro i
      obtain ⟨cs', hl, hr, hrd⟩ := hrow i.1 (by rw [h.size]; exact i.2)
      obtain ⟨name, A', len', cap', ss, hS⟩ := hrd.shape
      obtain rfl := hS.cells
      exact ⟨⟨name, A', len', cap', ss⟩, ⟨hr 0 (by simp), hr 1 (by simp)⟩, hS⟩
    obtain ⟨f, hf⟩ := Classical.axiomOfChoice hx
    refine ⟨List.ofFn f, ⟨by simp, fun _ => ⟨b, o, rfl, hb, fun i hi => ?_⟩, ?_⟩⟩
    · have hi' : i < len := by simpa using hi
      rw [List.getElem_ofFn]
      exact (hf ⟨i, hi'⟩).1
    · intro s hs
      obtain ⟨i, rfl⟩ := List.mem_ofFn.1 hs
      exact (hf i).2
end

def names (L : List Shp) : List ByteArray := L.map Shp.name

set_option maxHeartbeats 400000 in
theorem sameName_any (x : Shp) (n : ByteArray) (b o : Nat) (w : World) (hc : w.cell? ⟨b, o, none⟩ = some (.string n)) (hb : b < w.heap.size) :
    Calls Tryd.prog 22 #[.agg #[.string x.name, .slice x.A x.len x.cap], .pointer (some ⟨b, o, none⟩)] w fun e w' => e = .returned (.bool (x.name.toList == n.toList)) ∧ Below w.heap.size w w' := by
  have hc' : ∀ o1, (w.alloc o1).cell? ⟨b, o, none⟩ = some (.string n) := fun o1 => (World.cell?_alloc_lt w o1 ⟨b, o, none⟩ hb).trans hc
  go_enter Tryd.func22, Tryd.ntmps22
  go_wp2_with fail
  go_ret
  exact ⟨rfl, (Below.refl _ _).alloc (Nat.le_refl _) _⟩

set_option maxHeartbeats 1000000 in
theorem indexFunc_any (n : ByteArray) (b0 o0 : Nat) (A : Option Addr) (len cap : Nat) (L : List Shp) (w : World) (hcap : cap ≤ maxLen) (hl : len ≤ cap) (hA : ShapesAt w A len L) (hc : w.cell? ⟨b0, o0, none⟩ = some (.string n)) (hb0 : b0 < w.heap.size) :
    Calls Tryd.prog 33 #[.slice A len cap, .func (.func 22) #[] #[.pointer (some ⟨b0, o0, none⟩)]] w fun e w' => e = .returned (.int .i64 (idxL (names L) n)) ∧ Below w.heap.size w w' := by
  have hlen : len ≤ 9223372036854775807 := by unfold maxLen at hcap; omega
  have HA := Lib.hid hA
  have HC := Lib.hid hc
  clear hA hc
  go_enter Tryd.func33, Tryd.ntmps33
  go_wp2_with fail
  go_loopw [8] (fun i wr => ∃ k : Nat, k ≤ len ∧ i = .int .i64 k ∧ Below w.heap.size w wr ∧ ∀ j, j < k → (hj : j < (names L).length) → ((names L)[j].toList == n.toList) = false) (fun i _ => len - (intOf i).toNat)
  case atStart => exact ⟨0, by omega, rfl, Below.refl _ _, fun j h => absurd h (by omega)⟩
  case round =>
    obtain ⟨k, hk, rfl, hb, hall⟩ := hrel
    have HALL := Lib.hid hall
    have HB := Lib.hid hb
    clear hall hb
    by_cases hlt : k < len
    · obtain ⟨b, o, rfl, hbw, hrow⟩ := HA.out.at_ (by omega)
      have hks : k < L.length := by rw [HA.out.size]; exact hlt
      have hkn : k < (names L).length := by simpa [names] using hks
      have hnk : (names L)[k] = L[k].name := by simp [names]
      have c0 : wr.cell? ⟨b, o + k * 2, none⟩ = some (.string L[k].name) := (HB.out.cell (p := ⟨b, o + k * 2, none⟩) hbw).trans (hrow k hks).1
      have c1 : wr.cell? ⟨b, o + k * 2 + 1, none⟩ = some (.slice L[k].A L[k].len L[k].cap) := (HB.out.cell (p := ⟨b, o + k * 2 + 1, none⟩) hbw).trans (hrow k hks).2
      have HNK := Lib.hid hnk
      clear hrow hnk
      have hsz := HB.out.size
      cases he : (L[k].name.toList == n.toList)
      all_goals
        have HE := Lib.hid he
        clear he
        go_wp2_with fail
        refine (sameName_any L[k] n b0 o0 wr ((HB.out.cell (p := ⟨b0, o0, none⟩) hb0).trans HC.out) (Nat.lt_of_lt_of_le hb0 hsz)).mono ?_
        rintro e w1 ⟨rfl, hb1⟩
        rw [HE.out]
        have HB1 := Lib.hid (HB.out.trans (hb1.mono hsz))
        clear hb1
      · go_wp2_with fail
        go_roundw
        case rel =>
          refine ⟨k + 1, by omega, by go_num, HB1.out, fun j hj hj' => ?_⟩
          by_cases hjk : j = k
          · subst hjk; rw [HNK.out]; exact HE.out
          · exact HALL.out j (by omega) hj'
        case measure => simp [intOf]; omega
      · go_wp2_with fail
        go_ret
        exact ⟨ret_i (idxL_at hkn (by rw [HNK.out]; exact HE.out) HALL.out).symm, HB1.out⟩
    · obtain rfl : k = len := by omega
      go_wp2_with fail
      go_ret
      exact ⟨ret_i (idxL_no (fun j hj => HALL.out j (by rw [← HA.out.size]; simpa [names] using hj) hj)).symm, HB.out⟩

set_option maxHeartbeats 1000000 in
theorem containsFunc_any (n : ByteArray) (b0 o0 : Nat) (A : Option Addr) (len cap : Nat) (L : List Shp) (w : World) (hcap : cap ≤ maxLen) (hl : len ≤ cap) (hA : ShapesAt w A len L) (hc : w.cell? ⟨b0, o0, none⟩ = some (.string n)) (hb0 : b0 < w.heap.size) :
    Calls Tryd.prog 21 #[.slice A len cap, .func (.func 22) #[] #[.pointer (some ⟨b0, o0, none⟩)]] w fun e w' => e = .returned (.bool (inL (names L) n)) ∧ Below w.heap.size w w' := by
  go_enter Tryd.func21, Tryd.ntmps21
  go_wp2_with fail
  refine (indexFunc_any n b0 o0 A len cap L _ hcap hl hA hc hb0).mono ?_
  rintro e w1 ⟨rfl, hb1⟩
  have HB := Lib.hid hb1
  clear hb1
  go_wp2_with fail
  go_ret
  exact ⟨ret_bool (idxL_in (names L) n), HB.out⟩

set_option maxHeartbeats 1000000 in
theorem shapeAt_any (n : ByteArray) (A : Option Addr) (len cap : Nat) (L : List Shp) (w : World) (hcap : cap ≤ maxLen) (hl : len ≤ cap) (hA : ShapesAt w A len L) :
    Calls Tryd.prog 23 #[.slice A len cap, .string n] w fun e w' => e = .returned (.int .i64 (idxL (names L) n)) ∧ w = w' := by
  have hlen : len ≤ 9223372036854775807 := by unfold maxLen at hcap; omega
  have HA := Lib.hid hA
  clear hA
  go_enter Tryd.func23, Tryd.ntmps23
  go_wp2_with fail
  go_loop [5] (fun i => ∃ k : Nat, k ≤ len ∧ i = .int .i64 k ∧ ∀ j, j < k → (hj : j < (names L).length) → ((names L)[j].toList == n.toList) = false) (fun i => len - (intOf i).toNat)
  case atStart => exact ⟨0, by omega, rfl, fun j h => absurd h (by omega)⟩
  case round =>
    obtain ⟨k, hk, rfl, hall⟩ := hrel
    have HALL := Lib.hid hall
    clear hall
    by_cases hlt : k < len
    · obtain ⟨b, o, rfl, hbw, hrow⟩ := HA.out.at_ (by omega)
      have hks : k < L.length := by rw [HA.out.size]; exact hlt
      have hkn : k < (names L).length := by simpa [names] using hks
      have hnk : (names L)[k] = L[k].name := by simp [names]
      have c0 := (hrow k hks).1
      have HNK := Lib.hid hnk
      clear hrow hnk
      cases he : (L[k].name.toList == n.toList)
      · go_wp2_with fail
        go_round
        case rel =>
          refine ⟨k + 1, by omega, by go_num, fun j hj hj' => ?_⟩
          by_cases hjk : j = k
          · subst hjk; rw [HNK.out]; exact he
          · exact HALL.out j (by omega) hj'
        case measure => simp [intOf]; omega
      · go_wp2_with fail
        go_ret
        exact ⟨ret_i (idxL_at hkn (by rw [HNK.out]; exact he) HALL.out).symm, rfl⟩
    · obtain rfl : k = len := by omega
      go_wp2_with fail
      go_ret
      exact ⟨ret_i (idxL_no (fun j hj => HALL.out j (by rw [← HA.out.size]; simpa [names] using hj) hj)).symm, rfl⟩

/-! ### an environment -/
/-- What is wrong with the i-th global. -/
def globF (gs : List ByteArray) (i : Nat) : Int := if freeB (gs.getD i ByteArray.empty) = false then 4 else if inL (gs.take i) (gs.getD i ByteArray.empty) = true then 7 else 0
/-- What is wrong with the i-th shape. -/
def shpF (L : List Shp) (i : Nat) : Int :=
  match L[i]? with
  | none => 0
  | some x => if shapeF x.name x.ss ≠ 0 then shapeF x.name x.ss else if inL (names (L.take i)) x.name = true then 7 else 0
/-- What is wrong with an environment (P2.3). -/
def envF (gs : List ByteArray) (L : List Shp) : Int :=
  if 40 < gs.length ∨ 8 < L.length then 1
  else if firstErr ((List.range gs.length).map (globF gs)) ≠ 0 then firstErr ((List.range gs.length).map (globF gs))
  else firstErr ((List.range L.length).map (shpF L))

theorem envF_size {gs : List ByteArray} {L : List Shp} (h : 40 < gs.length ∨ 8 < L.length) : envF gs L = 1 := by unfold envF; rw [if_pos h]
theorem envF_glob {gs : List ByteArray} {L : List Shp} (h : ¬ (40 < gs.length ∨ 8 < L.length)) {k : Nat} {e : Int} (hk : k < gs.length) (hb : ∀ j, j < k → globF gs j = 0) (he : globF gs k = e) (hne : e ≠ 0) : envF gs L = e := by
  have h1 : firstErr ((List.range gs.length).map (globF gs)) = e := by
    rw [firstErr_at (i := k) (by simpa using hk) (fun j hj => by simpa using hb j hj) (by simpa [he] using hne)]
    simpa using he
  unfold envF
  rw [if_neg h, h1, if_pos hne]
theorem globs_ok {gs : List ByteArray} (hb : ∀ j, j < gs.length → globF gs j = 0) : firstErr ((List.range gs.length).map (globF gs)) = 0 := by
  rw [firstErr_zero]
  intro x hx
  obtain ⟨j, hj, rfl⟩ := List.mem_map.1 hx
  exact hb j (by simpa using hj)
theorem envF_shp {gs : List ByteArray} {L : List Shp} (h : ¬ (40 < gs.length ∨ 8 < L.length)) (hg : ∀ j, j < gs.length → globF gs j = 0) {k : Nat} {e : Int} (hk : k < L.length) (hb : ∀ j, j < k → shpF L j = 0) (he : shpF L k = e) (hne : e ≠ 0) : envF gs L = e := by
  unfold envF
  rw [if_neg h, globs_ok hg, if_neg (by simp), firstErr_at (i := k) (by simpa using hk) (fun j hj => by simpa using hb j hj) (by simpa [he] using hne)]
  simpa using he
theorem envF_ok {gs : List ByteArray} {L : List Shp} (h : ¬ (40 < gs.length ∨ 8 < L.length)) (hg : ∀ j, j < gs.length → globF gs j = 0) (hb : ∀ j, j < L.length → shpF L j = 0) : envF gs L = 0 := by
  unfold envF
  rw [if_neg h, globs_ok hg, if_neg (by simp), firstErr_zero]
  intro x hx
  obtain ⟨j, hj, rfl⟩ := List.mem_map.1 hx
  exact hb j (by simpa using hj)
end Go.Proofs.YtlgnaopaeapbfaaDoor
