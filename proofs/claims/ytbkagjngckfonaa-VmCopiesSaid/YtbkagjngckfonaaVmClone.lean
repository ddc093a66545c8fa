/- slices.Clone at whatever element type, whatever the slice: told of rows of cells. -/
import Derived.Test.YtbkagjngckfonaaVmView
import Derived.Lib.SliceRun
import Derived.Lib.Walk
namespace Go.Proofs.Ytbkagjngckfonaa
open Go.RowKit Go.ChangeShapes Go.WideShapes Go.Deep Go.ChangeAt Go.Shelf
set_option linter.unusedVariables false

set_option maxHeartbeats 2000000 in
set_option maxRecDepth 100000 in
theorem cloneCells {P : Program} {ρ : Ren} (L : SlLaysE0.n41 P ρ) (i0 : TypeInfo) (z : Value) (size bytes : Nat) (hi : P.info? (ρ.t 23) = some i0) (hz0 : i0.zero = some z) (hz1 : i0.size = size) (hz2 : i0.bytes = bytes) (hzs : z.cells.size = size) (hsz : 0 < size)
    (z23 : ∀ w, (Go.sizeOf (ρ.t 23)).run P w = .ok size w) (ad : Addr) (n c : Nat) (news : List Value) (w : World) (hl : news.length = n * size) (hn : n ≤ maxLen) (hbig : n * bytes ≤ 140737488355328)
    (hc : ∀ j u, news[j]? = some u → w.cell? (ad.add j) = some u) (h1 : ∀ u ∈ news, u.oneCell' = true) :
    Calls P (ρ.f 41) #[.slice (some ad) n c] w fun e w' => ∃ v', e = .returned v' ∧ w'.ownsRow w.heap.size (ρ.t 23) size v' n news ∧ Below w.heap.size w w' := by
  have mixed := L.mixed; have t4 := L.t4; have a4 := L.a4; have z4 := L.z4; have v4 := L.v4; have t22 := L.t22; have a22 := L.a22; have z22 := L.z22; have v22 := L.v22
  have q22 : ∀ (w : World) (a : Option Addr) (n c n' c' : Nat), (binOp .eql (ρ.t 22) (.slice a n c) (.slice none n' c')).run P w = .ok (.bool a.isNone) w := fun w a n c n' c' => Lib.run_eql_slice_nil w _ _ a n c n' c' L.t22
  have u22 : ∀ w, Sem.run P (underlying (ρ.t 22)) w = .ok (TypeDesc.slice (ρ.t 23)) w := run_underlying t22
  have A : Aside (∀ j u, news[j]? = some u → w.cell? (ad.add j) = some u) := hc
  clear hc
  obtain ⟨_, _, FG⟩ := L.f41
  go_enter FG, SlBodyN.n41_ntmps ρ
  go_wp2_with (at_builtin; refine wpList_append_own _ rfl _ _ (ρ.t 22) rfl w.heap.size (ρ.t 23) i0 z size bytes t22 hi hz0 hz1 hz2 hzs hsz _ _ _ rfl (World.ownsRow_made w #[] 0 (Nat.le_refl _) (Nat.zero_le _) (by simp)) ad n c news rfl ?qc1 ?qc2 ?qc3 ?qc4 ?qc5 ?qc6 ?_)
  case qc1 => exact hl
  case qc2 =>
    intro j u hj
    exact Lib.cell?_alloc_some _ (A.out j u hj)
  case qc3 => exact h1
  case qc4 => rw [Nat.zero_add]; exact hn
  case qc5 => rw [Nat.zero_add]; exact hbig
  case qc6 => simp
  intro v' w1 hown hgrow hnil
  go_wp2
  go_ret
  refine ⟨v', rfl, by simpa using hown, ?_⟩
  exact ((Below.refl _ w).alloc (Nat.le_refl _) _).grown hgrow (by simp) (by intro k hk; simp [Value.ownBlock] at hk; omega)

theorem flatten_at {k : Nat} : (C : List (List Value)) → (∀ c ∈ C, c.length = k) → (i : Nat) → (hi : i < C.length) → (j : Nat) → j < k → C.flatten[i * k + j]? = C[i][j]?
  | c :: C, hk, 0, _, j, hj => by
    have h0 := hk c (by simp)
    simp only [List.flatten_cons, Nat.zero_mul, Nat.zero_add, List.getElem_cons_zero]
    exact List.getElem?_append_left (by omega)
  | c :: C, hk, i + 1, hi, j, hj => by
    have h0 := hk c (by simp)
    have h := flatten_at C (fun x hx => hk x (by simp [hx])) i (by simpa using hi) j hj
    simp only [List.flatten_cons, List.getElem_cons_succ]
    rw [List.getElem?_append_right (by rw [h0, Nat.add_mul]; omega), ← h]
    congr 1
    rw [h0, Nat.add_mul]
    omega
theorem flatten_idx {k : Nat} : (C : List (List Value)) → (∀ c ∈ C, c.length = k) → (j : Nat) → (u : Value) → C.flatten[j]? = some u → ∃ i, ∃ hi : i < C.length, ∃ m, m < k ∧ j = i * k + m ∧ C[i][m]? = some u
  | [], _, j, u, h => by simp at h
  | c :: C, hk, j, u, h => by
    have h0 := hk c (by simp)
    rw [List.flatten_cons] at h
    by_cases hj : j < k
    · rw [List.getElem?_append_left (by omega)] at h
      exact ⟨0, by simp, j, hj, by omega, h⟩
    · rw [List.getElem?_append_right (by omega), h0] at h
      obtain ⟨i, hi, m, hm, hjm, hu⟩ := flatten_idx C (fun x hx => hk x (by simp [hx])) (j - k) u h
      exact ⟨i + 1, by simpa using hi, m, hm, by rw [Nat.add_mul]; omega, hu⟩
theorem flatten_len {k : Nat} : (C : List (List Value)) → (∀ c ∈ C, c.length = k) → C.flatten.length = C.length * k
  | [], _ => by simp
  | c :: C, hk => by
    rw [List.flatten_cons, List.length_append, flatten_len C (fun x hx => hk x (by simp [hx])), hk c (by simp), List.length_cons, Nat.add_mul]
    omega
theorem RowsF.len {w : World} {A : Option Addr} {n k : Nat} {C : List (List Value)} (h : RowsF w A n k C) : ∀ c ∈ C, c.length = k := by
  intro c hc
  obtain ⟨i, hi, rfl⟩ := List.getElem_of_mem hc
  obtain ⟨b, o, _, _, hr⟩ := h.at_ (by rw [← h.size]; omega)
  exact (hr i hi).1

/-- A row of the call's own as a slice of rows. -/
theorem ownsRow_form {w : World} {base : Nat} {t : TypeId} {k : Nat} {v : Value} {n : Nat} {C : List (List Value)} (h : w.ownsRow base t k v n C.flatten) (hn : C.length = n) (hk : ∀ c ∈ C, c.length = k) :
    ∃ A cap, v = .slice A n cap ∧ n ≤ cap ∧ cap ≤ maxLen ∧ RowsF w A n k C ∧ ∀ a, A = some a → base ≤ a.block := by
  rcases h.2 with ⟨rfl, h0⟩ | ⟨g, cap, cur, hv, hg, hh, h1, h2, _⟩
  · subst h0
    exact ⟨none, 0, rfl, by simp, by unfold maxLen; omega, ⟨hn, fun h => absurd h (by simp)⟩, fun a ha => by cases ha⟩
  · have hrow := h
    rw [hv] at hrow
    refine ⟨some ⟨g, 0, none⟩, cap, hv, h1, h2, ⟨hn, fun h0 => ⟨g, 0, rfl, (Array.getElem?_eq_some_iff.1 hh).1, fun i hi => ⟨hk _ (List.getElem_mem hi), ?_⟩⟩⟩, fun a ha => by cases ha; exact hg⟩
    intro j hj
    rw [hk _ (List.getElem_mem hi)] at hj
    rw [Nat.zero_add, ← flatten_at C hk i hi j hj]
    refine hrow.cellAt (i * k + j) ?_
    rw [← hn]
    have h1 : i * k + k ≤ C.length * k := by rw [← Nat.succ_mul]; exact Nat.mul_le_mul_right k hi
    omega

/-- What slices.Clone answers at a slice of rows. -/
def ClonePost (w : World) (n k : Nat) (C : List (List Value)) (e : Ending) (w' : World) : Prop := ∃ A cap, e = .returned (.slice A n cap) ∧ n ≤ cap ∧ cap ≤ maxLen ∧ RowsF w' A n k C ∧ (∀ a, A = some a → w.heap.size ≤ a.block) ∧ Below w.heap.size w w'
theorem clone_gen {P : Program} {ρ : Ren} (L : SlLaysE0.n41 P ρ) (i0 : TypeInfo) (z : Value) (k bytes : Nat) (hi : P.info? (ρ.t 23) = some i0) (hz0 : i0.zero = some z) (hz1 : i0.size = k) (hz2 : i0.bytes = bytes) (hzs : z.cells.size = k) (hsz : 0 < k)
    (z23 : ∀ w, (Go.sizeOf (ρ.t 23)).run P w = .ok k w) (A : Option Addr) (n c : Nat) (C : List (List Value)) (w : World) (hA : RowsF w A n k C) (hn : n ≤ maxLen) (hbig : n * bytes ≤ 140737488355328)
    (h1 : ∀ c ∈ C, ∀ u ∈ c, u.oneCell' = true) : Calls P (ρ.f 41) #[.slice A n c] w (ClonePost w n k C) := by
  have hl : C.flatten.length = n * k := by rw [flatten_len C hA.len, hA.size]
  have h1' : ∀ u ∈ C.flatten, u.oneCell' = true := by
    intro u hu
    obtain ⟨c, hc, hu⟩ := List.mem_flatten.1 hu
    exact h1 c hc u hu
  cases A with
  | none =>
    have h0 : n = 0 := by
      rcases Nat.eq_zero_or_pos n with h0 | h0
      · exact h0
      · obtain ⟨b, o, hb, _⟩ := hA.at_ h0
        cases hb
    subst h0
    refine (AnyE.slices_Clone_nil L 0 c w).mono ?_
    rintro e w' ⟨rfl, rfl⟩
    exact ⟨none, 0, rfl, by simp, by unfold maxLen; omega, hA, (fun a ha => by cases ha), Below.refl _ _⟩
  | some ad =>
    refine (cloneCells L i0 z k bytes hi hz0 hz1 hz2 hzs hsz z23 ad n c C.flatten w hl hn hbig ?_ h1').mono ?_
    · intro j u hj
      obtain ⟨i, hi, m, hm, rfl, hu⟩ := flatten_idx C hA.len j u hj
      obtain ⟨b, o, hb, _, hr⟩ := hA.at_ (by rw [← hA.size]; omega)
      cases hb
      have h := (hr i hi).2 m (by rw [(hr i hi).1]; exact hm)
      rw [Addr.add_lit, ← Nat.add_assoc, h, hu]
    · rintro e w' ⟨v', rfl, hown, hb⟩
      obtain ⟨A', cap, rfl, h1, h2, h3, h4⟩ := ownsRow_form hown hA.size hA.len
      exact ⟨A', cap, rfl, h1, h2, h3, h4, hb⟩

theorem one_glob {c : List Value} (h : IsGlob c) : ∀ u ∈ c, u.oneCell' = true := by
  obtain ⟨nm, k, n, s, rfl⟩ := h
  intro u hu
  simp only [List.mem_cons, List.not_mem_nil, or_false] at hu
  rcases hu with rfl | rfl | rfl | rfl <;> rfl
theorem one_word {c : List Value} (h : IsWord c) : ∀ u ∈ c, u.oneCell' = true := by
  obtain ⟨k, n, s, rfl⟩ := h
  intro u hu
  simp only [List.mem_cons, List.not_mem_nil, or_false] at hu
  rcases hu with rfl | rfl | rfl <;> rfl
theorem one_instr {c : List Value} (h : IsInstr c) : ∀ u ∈ c, u.oneCell' = true := by
  obtain ⟨o, a, b, s, t, k, n, u, rfl⟩ := h
  intro u hu
  simp only [List.mem_cons, List.not_mem_nil, or_false] at hu
  rcases hu with rfl | rfl | rfl | rfl | rfl | rfl | rfl | rfl <;> rfl
theorem one_int {c : List Value} (h : IsInt c) : ∀ u ∈ c, u.oneCell' = true := by
  obtain ⟨n, rfl⟩ := h
  intro u hu
  simp only [List.mem_cons, List.not_mem_nil, or_false] at hu
  subst hu
  rfl

theorem infoGlob : (Try.prog.info? 57).map (fun i => (i.zero, i.size, i.bytes)) = some (some (.agg #[.string ByteArray.empty, .int .i64 0, .int .i64 0, .string ByteArray.empty]), 4, 48) := by kernel_rfl
theorem infoWord : (Try.prog.info? 55).map (fun i => (i.zero, i.size, i.bytes)) = some (some (.agg #[.int .i64 0, .int .i64 0, .string ByteArray.empty]), 3, 32) := by kernel_rfl
theorem infoInstr : (Try.prog.info? 64).map (fun i => (i.zero, i.size, i.bytes)) = some (some (.agg #[.int .i64 0, .int .i64 0, .int .i64 0, .string ByteArray.empty, .string ByteArray.empty, .int .i64 0, .int .i64 0, .string ByteArray.empty]), 8, 88) := by kernel_rfl
theorem infoInt : (Try.prog.info? 3).map (fun i => (i.zero, i.size, i.bytes)) = some (some (.int .i64 0), 1, 8) := by kernel_rfl

theorem clone_glob (A : Option Addr) (n c : Nat) (C : List (List Value)) (w : World) (hA : RowsF w A n 4 C) (hn : n * 48 ≤ 140737488351232) (hC : ∀ c ∈ C, IsGlob c) : Calls Try.prog 14 #[.slice A n c] w (ClonePost w n 4 C) := by
  obtain ⟨i0, hi, hz0, hz1, hz2⟩ := info_parts infoGlob
  exact clone_gen Try.laysSlE041_f14 i0 _ 4 48 hi hz0 hz1 hz2 rfl (by decide) Try.sizeOf57 A n c C w hA (by unfold maxLen; omega) (by omega) (fun c hc => one_glob (hC c hc))
theorem clone_word (A : Option Addr) (n c : Nat) (C : List (List Value)) (w : World) (hA : RowsF w A n 3 C) (hn : n * 32 ≤ 140737488351232) (hC : ∀ c ∈ C, IsWord c) : Calls Try.prog 15 #[.slice A n c] w (ClonePost w n 3 C) := by
  obtain ⟨i0, hi, hz0, hz1, hz2⟩ := info_parts infoWord
  exact clone_gen Try.laysSlE041_f15 i0 _ 3 32 hi hz0 hz1 hz2 rfl (by decide) Try.sizeOf55 A n c C w hA (by unfold maxLen; omega) (by omega) (fun c hc => one_word (hC c hc))
theorem clone_instr (A : Option Addr) (n c : Nat) (C : List (List Value)) (w : World) (hA : RowsF w A n 8 C) (hn : n * 88 ≤ 140737488351232) (hC : ∀ c ∈ C, IsInstr c) : Calls Try.prog 16 #[.slice A n c] w (ClonePost w n 8 C) := by
  obtain ⟨i0, hi, hz0, hz1, hz2⟩ := info_parts infoInstr
  exact clone_gen Try.laysSlE041_f16 i0 _ 8 88 hi hz0 hz1 hz2 rfl (by decide) Try.sizeOf64 A n c C w hA (by unfold maxLen; omega) (by omega) (fun c hc => one_instr (hC c hc))
theorem clone_int (A : Option Addr) (n c : Nat) (C : List (List Value)) (w : World) (hA : RowsF w A n 1 C) (hn : n * 8 ≤ 140737488351232) (hC : ∀ c ∈ C, IsInt c) : Calls Try.prog 18 #[.slice A n c] w (ClonePost w n 1 C) := by
  obtain ⟨i0, hi, hz0, hz1, hz2⟩ := info_parts infoInt
  exact clone_gen Try.laysSlE041_f18 i0 _ 1 8 hi hz0 hz1 hz2 rfl (by decide) Try.sizeOf3 A n c C w hA (by unfold maxLen; omega) (by omega) (fun c hc => one_int (hC c hc))

def rowsS (ss : List ByteArray) : List (List Value) := ss.map fun s => [.string s]
theorem rowsS_of {w : World} {A : Option Addr} {n : Nat} {ss : List ByteArray} (h : StrsAt w A n ss) : RowsF w A n 1 (rowsS ss) :=
  ⟨by rw [rowsS, List.length_map]; exact h.size, fun h0 => by
    obtain ⟨b, o, rfl, hl, hc⟩ := h.at_ h0
    refine ⟨b, o, rfl, hl, fun i hi => ?_⟩
    have hi' : i < ss.length := by simpa [rowsS] using hi
    have he : (rowsS ss)[i] = [.string ss[i]] := by simp [rowsS]
    rw [he]
    refine ⟨rfl, fun j hj => ?_⟩
    obtain rfl : j = 0 := by simpa using hj
    simpa using hc i hi'⟩
theorem strs_of {w : World} {A : Option Addr} {n : Nat} {ss : List ByteArray} (h : RowsF w A n 1 (rowsS ss)) : StrsAt w A n ss :=
  ⟨by have := h.size; rwa [rowsS, List.length_map] at this, fun h0 => by
    obtain ⟨b, o, rfl, hl, hc⟩ := h.at_ h0
    refine ⟨b, o, rfl, hl, fun i hi => ?_⟩
    have h1 := (hc i (by simpa [rowsS] using hi)).2
    have he : (rowsS ss)[i]'(by simpa [rowsS] using hi) = [.string ss[i]] := by simp [rowsS]
    rw [he] at h1
    simpa using h1 0 (by simp)⟩
def CloneStrs (w : World) (n : Nat) (ss : List ByteArray) (e : Ending) (w' : World) : Prop := ∃ A cap, e = .returned (.slice A n cap) ∧ n ≤ cap ∧ cap ≤ maxLen ∧ StrsAt w' A n ss ∧ (∀ a, A = some a → w.heap.size ≤ a.block) ∧ Below w.heap.size w w'
theorem clone_strs (A : Option Addr) (n c : Nat) (ss : List ByteArray) (w : World) (hA : StrsAt w A n ss) (hn : n * 16 ≤ 140737488351232) : Calls Try.prog 17 #[.slice A n c] w (CloneStrs w n ss) := by
  obtain ⟨i0, hi, hz0, hz1, hz2⟩ := info_parts infoString
  refine (clone_gen Try.laysSlE041_f17 i0 _ 1 16 hi hz0 hz1 hz2 rfl (by decide) Try.sizeOf9 A n c (rowsS ss) w (rowsS_of hA) (by unfold maxLen; omega) (by omega) (fun c hc u hu => ?_)).mono ?_
  · obtain ⟨s, _, rfl⟩ := List.mem_map.1 hc
    obtain rfl : u = .string s := by simpa using hu
    rfl
  · rintro e w' ⟨A', cap, rfl, h1, h2, h3, h4, h5⟩
    exact ⟨A', cap, rfl, h1, h2, strs_of h3, h4, h5⟩
end Go.Proofs.Ytbkagjngckfonaa
