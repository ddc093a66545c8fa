/- The parse, step by step; where it ends. -/
import Derived.Test.YtbkagjngckfonaaDoorTree
namespace Go.Proofs.YtbkagjngckfonaaDoor
open Go.RowKit
set_option linter.unusedVariables false

section
variable {s : ByteArray} {f : Nat} {lev : Int} {k cnt : Nat} {acc : List Dt}
theorem pdl_end (h : skipA s k = s.size) : pdl s (f + 1) false lev k cnt acc = .bad s.size 5 := by
  rw [pdl, dif_neg (by omega), h]
theorem pdl_size (h : skipA s k < s.size) (h1 : 400 < cnt + 1) : pdl s (f + 1) false lev k cnt acc = .bad (skipA s k) 1 := by
  rw [pdl, dif_pos h, if_pos h1]
theorem pdl_deep (h : skipA s k < s.size) (h1 : ¬ 400 < cnt + 1) (h2 : 40 < lev) : pdl s (f + 1) false lev k cnt acc = .bad (skipA s k) 8 := by
  rw [pdl, dif_pos h, if_neg h1, if_pos h2]
theorem pdl_close (h : skipA s k < s.size) (h1 : ¬ 400 < cnt + 1) (h2 : ¬ 40 < lev) (h3 : s[skipA s k] = 41) : pdl s (f + 1) false lev k cnt acc = .bad (skipA s k) 4 := by
  rw [pdl, dif_pos h, if_neg h1, if_neg h2, if_pos h3]
theorem pdl_quote (h : skipA s k < s.size) (h1 : ¬ 400 < cnt + 1) (h2 : ¬ 40 < lev) (h3 : s[skipA s k] = 39) : pdl s (f + 1) false lev k cnt acc = (pdl s f false (lev + 1) (skipA s k + 1) (cnt + 1) []).quoted := by
  rw [pdl, dif_pos h, if_neg h1, if_neg h2, if_neg (by rw [h3]; decide), if_pos h3]
theorem pdl_list (h : skipA s k < s.size) (h1 : ¬ 400 < cnt + 1) (h2 : ¬ 40 < lev) (h3 : s[skipA s k] = 40) : pdl s (f + 1) false lev k cnt acc = pdl s f true lev (skipA s k + 1) (cnt + 1) [] := by
  rw [pdl, dif_pos h, if_neg h1, if_neg h2, if_neg (by rw [h3]; decide), if_neg (by rw [h3]; decide), if_pos h3]
def AR.res (p a c : Nat) : AR → PR
  | .bad e => .bad p e
  | .good k n t => .good a c (.mk k n t [])
theorem pdl_atom (h : skipA s k < s.size) (h1 : ¬ 400 < cnt + 1) (h2 : ¬ 40 < lev) (h3 : s[skipA s k] ≠ 41) (h4 : s[skipA s k] ≠ 39) (h5 : s[skipA s k] ≠ 40) :
    pdl s (f + 1) false lev k cnt acc = (atomR (s.extract (skipA s k) (wordA s (skipA s k)))).res (skipA s k) (wordA s (skipA s k)) (cnt + 1) := by
  rw [pdl, dif_pos h, if_neg h1, if_neg h2, if_neg h3, if_neg h4, if_neg h5]
  cases atomR (s.extract (skipA s k) (wordA s (skipA s k))) <;> rfl
theorem pdl_stop (h : closeB s (skipA s k) = true) : pdl s (f + 1) true lev k cnt acc = .good (skipA s k + 1) cnt (.mk 4 0 ⟨#[]⟩ acc) := by
  rw [pdl, if_pos h]
theorem pdl_item_bad (h : closeB s (skipA s k) = false) {p : Nat} {e : Int} (h1 : pdl s f false (lev + 1) (skipA s k) cnt [] = .bad p e) : pdl s (f + 1) true lev k cnt acc = .bad p e := by
  rw [pdl, if_neg (by simp [h]), h1]
theorem pdl_item_good (h : closeB s (skipA s k) = false) {a c : Nat} {x : Dt} (h1 : pdl s f false (lev + 1) (skipA s k) cnt [] = .good a c x) : pdl s (f + 1) true lev k cnt acc = pdl s f true lev a c (acc ++ [x]) := by
  rw [pdl, if_neg (by simp [h]), h1]
end
theorem atomR_bad {W : ByteArray} {e : Int} (h : atomR W = .bad e) : e ≠ 0 := by
  unfold atomR at h
  split at h
  · cases h
  · split at h
    · cases h
    · split at h
      · cases h
      · split at h
        · injection h with h; omega
        · split at h
          · injection h with h; omega
          · cases h
/-- How a parse may end. -/
def PR.fine (s : ByteArray) (cnt : Nat) (flag : Bool) : PR → Prop
  | .bad p e => p ≤ s.size ∧ e ≠ 0
  | .good a c t => a ≤ s.size ∧ (cnt < c ∨ (flag = true ∧ cnt ≤ c)) ∧ c ≤ 400
theorem pdl_fine (s : ByteArray) : ∀ (f : Nat) (flag : Bool) (lev : Int) (k cnt : Nat) (acc : List Dt), k ≤ s.size → cnt ≤ 400 → 2 * (401 - cnt) + (if flag then 2 else 1) ≤ f → (pdl s f flag lev k cnt acc).fine s cnt flag := by
  intro f
  induction f with
  | zero => intro flag lev k cnt acc _ h1 h; cases flag <;> simp at h
  | succ f ih =>
    intro flag lev k cnt acc hk hc hf
    have hsk := skipA_le s k hk
    cases flag with
    | true =>
      simp only [if_true] at hf
      cases hx : closeB s (skipA s k) with
      | true =>
        rw [pdl_stop hx]
        have : skipA s k < s.size := by
          unfold closeB at hx
          split at hx
          · assumption
          · cases hx
        exact ⟨this, Or.inr ⟨rfl, Nat.le_refl _⟩, hc⟩
      | false =>
        have h1 := ih false (lev + 1) (skipA s k) cnt [] hsk hc (by simp only [Bool.false_eq_true, if_false]; omega)
        cases hy : pdl s f false (lev + 1) (skipA s k) cnt [] with
        | bad p e => rw [hy] at h1; rw [pdl_item_bad hx hy]; exact h1
        | good a c x =>
          rw [hy] at h1
          obtain ⟨h2, h3, h4⟩ := h1
          have h5 : cnt < c := by
            rcases h3 with h3 | ⟨h3, _⟩
            · exact h3
            · cases h3
          rw [pdl_item_good hx hy]
          have h6 := ih true lev a c (acc ++ [x]) h2 h4 (by simp only [if_true]; omega)
          cases hz : pdl s f true lev a c (acc ++ [x]) with
          | bad p e => rw [hz] at h6; exact h6
          | good a' c' t =>
            rw [hz] at h6
            obtain ⟨g1, g2, g3⟩ := h6
            exact ⟨g1, Or.inl (by rcases g2 with g2 | ⟨_, g2⟩ <;> omega), g3⟩
    | false =>
      simp only [Bool.false_eq_true, if_false] at hf
      rcases Nat.lt_or_ge (skipA s k) s.size with h | h
      · by_cases h1 : 400 < cnt + 1
        · rw [pdl_size h h1]; exact ⟨by omega, by decide⟩
        · by_cases h2 : 40 < lev
          · rw [pdl_deep h h1 h2]; exact ⟨by omega, by decide⟩
          · by_cases h3 : s[skipA s k] = 41
            · rw [pdl_close h h1 h2 h3]; exact ⟨by omega, by decide⟩
            · by_cases h4 : s[skipA s k] = 39
              · rw [pdl_quote h h1 h2 h4]
                have h5 := ih false (lev + 1) (skipA s k + 1) (cnt + 1) [] (by omega) (by omega) (by simp only [Bool.false_eq_true, if_false]; omega)
                cases hy : pdl s f false (lev + 1) (skipA s k + 1) (cnt + 1) [] with
                | bad p e => rw [hy] at h5; exact h5
                | good a c x =>
                  rw [hy] at h5
                  obtain ⟨g1, g2, g3⟩ := h5
                  exact ⟨g1, Or.inl (by rcases g2 with g2 | ⟨_, g2⟩ <;> omega), g3⟩
              · by_cases h5 : s[skipA s k] = 40
                · rw [pdl_list h h1 h2 h5]
                  have h6 := ih true lev (skipA s k + 1) (cnt + 1) [] (by omega) (by omega) (by simp only [if_true]; omega)
                  cases hy : pdl s f true lev (skipA s k + 1) (cnt + 1) [] with
                  | bad p e => rw [hy] at h6; exact h6
                  | good a c x =>
                    rw [hy] at h6
                    obtain ⟨g1, g2, g3⟩ := h6
                    exact ⟨g1, Or.inl (by rcases g2 with g2 | ⟨_, g2⟩ <;> omega), g3⟩
                · rw [pdl_atom h h1 h2 h3 h4 h5]
                  cases hy : atomR (s.extract (skipA s k) (wordA s (skipA s k))) with
                  | bad e => exact ⟨by show skipA s k ≤ s.size; omega, atomR_bad hy⟩
                  | good a b t => exact ⟨wordA_le s _ hsk, Or.inl (Nat.lt_succ_self _), by omega⟩
      · rw [pdl_end (by omega)]; exact ⟨Nat.le_refl _, by decide⟩

theorem infoDt : (Tryd.prog.info? 24).map (fun i => (i.zero, i.size, i.bytes)) = some (some (.agg #[.int .i64 0, .int .i64 0, .string ByteArray.empty, .slice none 0 0]), 4, 56) := by kernel_rfl
theorem infoDt' : ∃ i, Tryd.prog.info? 24 = some i ∧ i.zero = some (.agg #[.int .i64 0, .int .i64 0, .string ByteArray.empty, .slice none 0 0]) ∧ i.size = 4 ∧ i.bytes = 56 := by
  have h := infoDt
  cases hx : Tryd.prog.info? 24 with
  | none => rw [hx] at h; cases h
  | some i =>
    rw [hx] at h
    simp only [Option.map_some, Option.some.injEq, Prod.mk.injEq] at h
    exact ⟨i, rfl, h.1, h.2.1, h.2.2⟩

/-- What a parse of a datum leaves, where the parser's other cells are R (a fault's) and R0 (none). -/
def DtPost (b : Nat) (s : ByteArray) (w : World) (Bad : Nat → Int → World → Prop) (Ok : Nat → List Value) (r : PR) (e : Ending) (w' : World) : Prop :=
  ∃ k n t A len cap, e = .returned (.agg #[.int .i64 k, .int .i64 n, .string t, .slice A len cap]) ∧ Only b w w' ∧
    match r with
    | .bad p er => Bad p er w'
    | .good a c x => St w' b s a (Ok c) ∧ DtIn w' w.heap.size w'.heap.size [.int .i64 k, .int .i64 n, .string t, .slice A len cap] x
/-- A list's cells, and the result's, while it is read. -/
structure Lp (B b pr p : Nat) (w wr : World) (v : Value) (Y : List DV) : Prop where
  only : Only b w wr
  res : Res4 wr pr
  p0 : wr.cell? ⟨p, 0, none⟩ = some (.int .i64 4)
  p1 : wr.cell? ⟨p, 1, none⟩ = some (.int .i64 0)
  p2 : wr.cell? ⟨p, 2, none⟩ = some (.string ⟨#[]⟩)
  p3 : wr.cell? ⟨p, 3, none⟩ = some v
  pf : ∀ o, wr.frozen? ⟨p, o, none⟩ = false
  own : OwnAt kitDt 24 B wr v Y
  base : B ≤ wr.heap.size
theorem Lp.move {B b pr p : Nat} {w wr wq : World} {v : Value} {Y : List DV} (h : Lp B b pr p w wr v Y) (ho : Only b wr wq) (hbB : b < B) (hp : p ≠ b) (hpr : pr ≠ b) : Lp B b pr p w wq v Y :=
  ⟨h.only.trans ho, h.res.only ho hpr, ho.cell h.p0 hp, ho.cell h.p1 hp, ho.cell h.p2 hp, ho.cell h.p3 hp,
    fun o => (World.frozen?_of_block (a := ⟨p, o, none⟩) (World.grownBy.block ho p (World.block_lt_of_cell? wr _ h.p0) (fun e => hp (Option.some.inj e)))).trans (h.pf o),
    h.own.other ho hbB, Nat.le_trans h.base (World.grownBy.size ho)⟩
theorem Lp.new {B b pr p : Nat} {w wr wq : World} {v : Value} {Y : List DV} (h : Lp B b pr p w wr v Y) (hb : Below wr.heap.size wr wq) (hbB : b < B) (hp : p ≠ b) (hpr : pr ≠ b) : Lp B b pr p w wq v Y := h.move (Only.of_below hb) hbB hp hpr
/-- One more item: the row has grown, and is laid into the list's cell. -/
theorem Lp.step {B b pr p : Nat} {w wr wq : World} {v v' : Value} {Y Y' : List DV} (h : Lp B b pr p w wr v Y) (hw : w.heap.size ≤ wr.heap.size) (hbB : b < B) (hp : p ≠ b) (hpB : p < B) (hpw : w.heap.size ≤ p) (hpr : pr ≠ p) (hprB : pr < B) (hg : wr.grownBy wq v.ownBlock) (hO : OwnAt kitDt 24 B wq v' Y') (hBw : w.heap.size ≤ B) :
    Lp B b pr p w (wq.setCell ⟨p, 3, none⟩ v') v' Y' := by
  have hne : ∀ g, g < B → v.ownBlock ≠ some g := fun g hg' e => by have := (h.own.row.lt g e).1; omega
  have hc : ∀ g o, g < B → wq.cell? ⟨g, o, none⟩ = wr.cell? ⟨g, o, none⟩ := fun g o hg' => World.cell?_of_block (a := ⟨g, o, none⟩) (hg.block g (Nat.lt_of_lt_of_le hg' h.base) (fun e => hne g hg' e.symm))
  have hf : ∀ g o, g < B → wq.frozen? ⟨g, o, none⟩ = wr.frozen? ⟨g, o, none⟩ := fun g o hg' => World.frozen?_of_block (a := ⟨g, o, none⟩) (hg.block g (Nat.lt_of_lt_of_le hg' h.base) (fun e => hne g hg' e.symm))
  have hon : Only b w wq := ⟨hg.os.trans (World.grownBy.os h.only), hg.tape.trans (World.grownBy.tape h.only), hg.output.trans (World.grownBy.output h.only), Nat.le_trans hw hg.size, fun k hk hkb =>
    (hg.block k (Nat.lt_of_lt_of_le hk hw) (fun e => hne k (Nat.lt_of_lt_of_le hk hBw) e.symm)).trans (World.grownBy.block h.only k hk hkb)⟩
  have hpp : Res4 wq pr := by
    obtain ⟨⟨u0, u1, u2, u3, h0, h1, h2, h3⟩, hfr⟩ := h.res
    exact ⟨⟨u0, u1, u2, u3, (hc _ _ hprB).trans h0, (hc _ _ hprB).trans h1, (hc _ _ hprB).trans h2, (hc _ _ hprB).trans h3⟩, fun o => (hf _ _ hprB).trans (hfr o)⟩
  refine ⟨hon.set_new hpw _, ?_, ?_, ?_, ?_, ?_, ?_, ?_, ?_⟩
  · obtain ⟨⟨u0, u1, u2, u3, h0, h1, h2, h3⟩, hfr⟩ := hpp
    exact ⟨⟨u0, u1, u2, u3, (World.cell?_setCell_far _ _ _ _ (Ne.symm hpr)).trans h0, (World.cell?_setCell_far _ _ _ _ (Ne.symm hpr)).trans h1, (World.cell?_setCell_far _ _ _ _ (Ne.symm hpr)).trans h2, (World.cell?_setCell_far _ _ _ _ (Ne.symm hpr)).trans h3⟩, fun o => by rw [World.frozen?_setCell]; exact hfr o⟩
  · exact set_other' ((hc p 0 hpB).trans h.p0) (by decide)
  · exact set_other' ((hc p 1 hpB).trans h.p1) (by decide)
  · exact set_other' ((hc p 2 hpB).trans h.p2) (by decide)
  · exact set_same' ((hc p 3 hpB).trans h.p3)
  · intro o
    rw [World.frozen?_setCell]
    exact (hf p o hpB).trans (h.pf o)
  · exact hO.other (grown_set _ _ _ _) hpB
  · have : wq.heap.size = (wq.setCell ⟨p, 3, none⟩ v').heap.size := by simp
    rw [← this]
    exact Nat.le_trans h.base hg.size
theorem Lp.start {B b pr p : Nat} {w wr : World} (h1 : Only b w wr) (h2 : Res4 wr pr) (h3 : wr.cell? ⟨p, 0, none⟩ = some (.int .i64 4)) (h4 : wr.cell? ⟨p, 1, none⟩ = some (.int .i64 0)) (h5 : wr.cell? ⟨p, 2, none⟩ = some (.string ⟨#[]⟩)) (h6 : wr.cell? ⟨p, 3, none⟩ = some (.slice none 0 0)) (h7 : ∀ o, wr.frozen? ⟨p, o, none⟩ = false) (hB : B ≤ wr.heap.size) :
    Lp B b pr p w wr (.slice none 0 0) [] := ⟨h1, h2, h3, h4, h5, h6, h7, OwnAt.start kitDt _ _ _, hB⟩
end Go.Proofs.YtbkagjngckfonaaDoor
