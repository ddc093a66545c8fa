/- Proved: the second form's tied card of grafterylaw.ReadShows: it returns true for every datum of bulk at most 1048576 (read.Show answers what the reference answers). Conditions: none beyond the given row's own (the three listed tables, tied to the program's text). -/
import Derived.Test.YtbkagjngckfonaaDoorWrite
import Derived.Test.YtbkagjngckfonaaDoorCheck
import Derived.Test.YtbkagjngckfonaaDoorDFault
import Derived.Test.YtbkagjngckfonaaDoorLaw
import Derived.Test.YtbkagjngckfonaaDoorBulk
import Derived.Test.YtbkagjngckfonaaDoorCards
import Derived.Test.YtbkagjngckfonaaDoorTie
import Derived.Deep.DeepHandedRow
import Derived.Deep.DeepWitnessRowRef
import Derived.LaidMore
namespace Go.Proofs.YtbkagjngckfonaaDoor
open Go.RowKit Go.ChangeShapes Go.WideShapes Go.Deep Go.ChangeAt
set_option linter.unusedVariables false

section
variable {H : Type} {enc : TypeId × Value → H}

theorem bulkAll_append (l r : List (DataW H)) : Rows.uptoBulkAll (l ++ r) = Rows.uptoBulkAll l + Rows.uptoBulkAll r := bulks.append l r
theorem joinSp_len (f : DataW H → List UInt8) : ∀ (l : List (DataW H)), (∀ x ∈ l, (f x).length + 1 ≤ 30 * Rows.uptoBulk x) → (joinSp (l.map f)).length ≤ 30 * Rows.uptoBulkAll l
  | [], _ => by simp [joinSp]
  | x :: r, h => by
    have h1 : ∀ (r : List (DataW H)), (∀ x ∈ r, (f x).length + 1 ≤ 30 * Rows.uptoBulk x) → ((r.map f).map fun y => 32 :: y).flatten.length ≤ 30 * Rows.uptoBulkAll r := by
      intro r
      induction r with
      | nil => intro _; simp
      | cons a r ih =>
        intro h
        have ha := h a (by simp)
        have hr := ih fun x hx => h x (by simp [hx])
        simp only [List.map_cons, List.flatten_cons, List.length_append, List.length_cons, Rows.uptoBulkAll] at hr ⊢
        omega
    have hx := h x (by simp)
    have hr := h1 r fun y hy => h y (by simp [hy])
    simp only [List.map_cons, joinSp, List.length_append, Rows.uptoBulkAll]
    omega
/-- A text is not long. -/
theorem text_len (r : Nat) : ∀ (w : World) (cs : List Value) (d : DataW H), Rd enc w 24 cs d → fault r d = 0 → (textN r d).length + 1 ≤ 30 * Rows.uptoBulk d := by
  induction r with
  | zero => intro w cs d _ h; exact absurd h (fault_zero d)
  | succ r ih =>
    intro w cs d hd hf
    obtain ⟨k, n, s, A, len, cap, it, rfl, rfl, hk, hn, hs, hA⟩ := hd.datum
    obtain ⟨hk14, hk1, hk2, hall⟩ := fault_good hf
    have hb : Rows.uptoBulk (DataW.agg [.lit (.int .i64 k), .lit (.int .i64 n), .lit (.string s.data.toList), it] : DataW H) = s.data.toList.length + Rows.uptoBulk it + 4 := by
      simp only [Rows.uptoBulk, Rows.uptoBulkAll]
      omega
    rw [hb]
    have h1 := bulks.one_le it
    obtain rfl | rfl | rfl | rfl : k = 1 ∨ k = 2 ∨ k = 3 ∨ k = 4 := by omega
    · rw [text1]
      obtain ⟨q1, q2⟩ := hk1 rfl
      have := Lib.itoa_length_le n (by omega) (by omega)
      omega
    · rw [text2]
      split <;> simp <;> omega
    · rw [text3]
      omega
    · rw [text4]
      have hj := joinSp_len (textN r) (elems it) (fun x hx => by
        obtain ⟨i, hi, rfl⟩ := List.getElem_of_mem hx
        obtain ⟨b, o, _, _, hrow⟩ := hA.at_ (by rw [← hA.size]; omega)
        obtain ⟨cs', _, _, hrd⟩ := hrow i hi
        exact ih w cs' _ hrd (hall _ (List.getElem_mem hi)))
      have he : Rows.uptoBulkAll (elems it) + 1 ≤ Rows.uptoBulk it ∨ elems it = [] := by
        cases it with
        | slice es sp => left; exact bulks.slice_elems es sp
        | _ => right; rfl
      simp only [List.length_cons, List.length_append, List.length_nil]
      rcases he with he | he
      · omega
      · rw [he] at hj ⊢
        simp only [List.map_nil, joinSp, List.length_nil] at hj ⊢
        omega

def ShownIs (d : DataW H) (w : World) (e : Ending) (w' : World) : Prop :=
  e = .returned (.tuple #[.string ⟨(if fault 40 d = 0 then textN 40 d else []).toArray⟩, .int .i64 (fault 40 d)]) ∧ Below w.heap.size w w'

set_option maxHeartbeats 1000000 in
theorem readCheck_any (w : World) (cs : List Value) (d : DataW H) (hd : Rd enc w 24 cs d) :
    Calls Tryd.prog 10 #[.agg cs.toArray] w fun e w' => e = .returned (.int .i64 (fault 40 d)) ∧ Below w.heap.size w w' := by
  obtain ⟨k, n, s, A, len, cap, it, rfl, hdd, hk, hn, hs, hA⟩ := hd.datum
  have HD := Lib.hid hd
  clear hd hdd hk hn hs hA
  go_enter Tryd.func10, Tryd.ntmps10
  go_wp2_with fail
  refine (check_any 40 1 _ [.int .i64 k, .int .i64 n, .string s, .slice A len cap] d (by omega) (by omega) (HD.out.below readableDatum rowDatum ?_)).mono ?_
  · exact (Below.refl _ _).alloc (Nat.le_refl _) _
  rintro e w1 ⟨rfl, hb1⟩
  go_wp2_with fail
  go_ret
  exact ⟨rfl, ((Below.refl _ _).alloc (Nat.le_refl _) _).trans (hb1.mono (by simp))⟩
set_option maxHeartbeats 1000000 in
theorem datumFault_any (w : World) (cs : List Value) (d : DataW H) (hd : Rd enc w 24 cs d) :
    Calls Tryd.prog 13 #[.agg cs.toArray] w fun e w' => e = .returned (.int .i64 (fault 40 d)) ∧ Below w.heap.size w w' := by
  obtain ⟨k, n, s, A, len, cap, it, rfl, hdd, hk, hn, hs, hA⟩ := hd.datum
  have HD := Lib.hid hd
  clear hd hdd hk hn hs hA
  go_enter Tryd.func13, Tryd.ntmps13
  go_wp2_with fail
  refine (dfault_any 40 1 _ [.int .i64 k, .int .i64 n, .string s, .slice A len cap] d (by omega) (by omega) (HD.out.below readableDatum rowDatum ?_)).mono ?_
  · exact (Below.refl _ _).alloc (Nat.le_refl _) _
  rintro e w1 ⟨rfl, hb1⟩
  go_wp2_with fail
  go_ret
  exact ⟨rfl, ((Below.refl _ _).alloc (Nat.le_refl _) _).trans (hb1.mono (by simp))⟩

set_option maxHeartbeats 2000000 in
set_option maxRecDepth 20000 in
theorem show_any (w : World) (hT : Tab w) (cs : List Value) (d : DataW H) (hd : Rd enc w 24 cs d) (hlen : fault 40 d = 0 → (textN 40 d).length ≤ 140737488355328) :
    Calls Tryd.prog 5 #[.agg cs.toArray] w (ShownIs d w) := by
  obtain ⟨k, n, s, A, len, cap, it, rfl, hdd, hk, hn, hs, hA⟩ := hd.datum
  have HD := Lib.hid hd
  have HT := Lib.hid hT
  have HLEN := Lib.hid hlen
  have hw0 : Below w.heap.size w (w.alloc (.cells #[.int .i64 k, .int .i64 n, .string s, .slice A len cap] 24)) := (Below.refl _ _).alloc (Nat.le_refl _) _
  have HW0 := Lib.hid hw0
  clear hd hdd hk hn hs hA hT hlen hw0
  go_enter Tryd.func5, Tryd.ntmps5
  go_wp2_with fail
  refine (readCheck_any _ [.int .i64 k, .int .i64 n, .string s, .slice A len cap] d (HD.out.below readableDatum rowDatum HW0.out)).mono ?_
  rintro e w1 ⟨rfl, hb1⟩
  have c0 : w1.cell? ⟨w.heap.size, 0, none⟩ = some (.int .i64 k) := box_cell hb1 rfl
  have c1 : w1.cell? ⟨w.heap.size, 1, none⟩ = some (.int .i64 n) := box_cell hb1 rfl
  have c2 : w1.cell? ⟨w.heap.size, 2, none⟩ = some (.string s) := box_cell hb1 rfl
  have c3 : w1.cell? ⟨w.heap.size, 3, none⟩ = some (.slice A len cap) := box_cell hb1 rfl
  have hlt : w.heap.size < w1.heap.size := Nat.lt_of_lt_of_le (by simp) hb1.size
  have HB := Lib.hid (HW0.out.trans (hb1.mono (by simp)))
  clear hb1
  obtain ⟨f, hf⟩ : ∃ f, fault 40 d = f := ⟨_, rfl⟩
  rw [hf]
  have HF := Lib.hid hf
  clear hf
  by_cases hf0 : f = 0
  · have hf1 : (f != 0) = false := by simp [hf0]
    have HF0 := Lib.hid hf0
    clear hf0
    go_wp2_with fail
    have hB2 : Below w1.heap.size w1 (w1.alloc (.cells #[.pointer none, .slice none 0 0] 37)) := (Below.refl _ _).alloc (Nat.le_refl _) _
    have hbld : Bld w1.heap.size w1.heap.size (Lib.byteCells []) (w1.alloc (.cells #[.pointer none, .slice none 0 0] 37)) := Lib.fresh_isBuilder _ _ _
    refine (write_any w1 (HT.out.below HB.out) 40 w1.heap.size [] _ [.int .i64 k, .int .i64 n, .string s, .slice A len cap] d (HD.out.below readableDatum rowDatum HB.out) (by rw [HF.out]; exact HF0.out) hbld hB2 (by simpa using HLEN.out (by rw [HF.out]; exact HF0.out))).mono ?_
    rintro e w2 ⟨rfl, h2, hb2, _⟩
    have H2 := Lib.hid h2
    have HB2 := Lib.hid ((hB2.trans hb2))
    clear h2 hb2 hB2 hbld
    go_wp2_with fail
    refine (Tryd.Builder_String_any w1.heap.size w1.heap.size ([] ++ textN 40 d) _ H2.out HB2.out.size).mono ?_
    rintro e w3 ⟨rfl, hb3⟩
    have HB3 := Lib.hid (HB.out.trans ((HB2.out.trans hb3).mono HB.out.size))
    clear hb3
    go_wp2_with fail
    go_ret2
    exact ⟨by rw [HF.out, if_pos HF0.out, HF0.out]; rfl, HB3.out⟩
  · have hf1 : (f != 0) = true := by simpa using hf0
    have HF0 := Lib.hid hf0
    clear hf0
    go_wp2_with fail
    go_ret2
    exact ⟨by rw [HF.out, if_neg HF0.out]; rfl, HB.out⟩

set_option maxHeartbeats 2000000 in
set_option maxRecDepth 20000 in
theorem shown_any (w : World) (cs : List Value) (d : DataW H) (hd : Rd enc w 24 cs d) (hlen : fault 40 d = 0 → (textN 40 d).length ≤ 140737488355328) :
    Calls Tryd.prog 6 #[.agg cs.toArray] w (ShownIs d w) := by
  obtain ⟨k, n, s, A, len, cap, it, rfl, hdd, hk, hn, hs, hA⟩ := hd.datum
  have HD := Lib.hid hd
  have HLEN := Lib.hid hlen
  have hw0 : Below w.heap.size w (w.alloc (.cells #[.int .i64 k, .int .i64 n, .string s, .slice A len cap] 24)) := (Below.refl _ _).alloc (Nat.le_refl _) _
  have HW0 := Lib.hid hw0
  clear hd hdd hk hn hs hA hlen hw0
  go_enter Tryd.func6, Tryd.ntmps6
  go_wp2_with fail
  refine (datumFault_any _ [.int .i64 k, .int .i64 n, .string s, .slice A len cap] d (HD.out.below readableDatum rowDatum HW0.out)).mono ?_
  rintro e w1 ⟨rfl, hb1⟩
  have c0 : w1.cell? ⟨w.heap.size, 0, none⟩ = some (.int .i64 k) := box_cell hb1 rfl
  have c1 : w1.cell? ⟨w.heap.size, 1, none⟩ = some (.int .i64 n) := box_cell hb1 rfl
  have c2 : w1.cell? ⟨w.heap.size, 2, none⟩ = some (.string s) := box_cell hb1 rfl
  have c3 : w1.cell? ⟨w.heap.size, 3, none⟩ = some (.slice A len cap) := box_cell hb1 rfl
  have HB := Lib.hid (HW0.out.trans (hb1.mono (by simp)))
  clear hb1
  obtain ⟨f, hf⟩ : ∃ f, fault 40 d = f := ⟨_, rfl⟩
  rw [hf]
  have HF := Lib.hid hf
  clear hf
  by_cases hf0 : f = 0
  · have hf1 : (f != 0) = false := by simp [hf0]
    have HF0 := Lib.hid hf0
    clear hf0
    go_wp2_with fail
    refine (datumText_any 40 _ [.int .i64 k, .int .i64 n, .string s, .slice A len cap] d (HD.out.below readableDatum rowDatum HB.out) (by rw [HF.out]; exact HF0.out) (by have := HLEN.out (by rw [HF.out]; exact HF0.out); omega)).mono ?_
    rintro e w2 ⟨rfl, hb2⟩
    have HB2 := Lib.hid (HB.out.trans (hb2.mono HB.out.size))
    clear hb2
    go_wp2_with fail
    go_ret2
    exact ⟨by rw [HF.out, if_pos HF0.out, HF0.out]; rfl, HB2.out⟩
  · have hf1 : (f != 0) = true := by simpa using hf0
    have HF0 := Lib.hid hf0
    clear hf0
    go_wp2_with fail
    go_ret2
    exact ⟨by rw [HF.out, if_neg HF0.out]; rfl, HB.out⟩

set_option maxHeartbeats 2000000 in
set_option maxRecDepth 20000 in
theorem readShows_walk (w : World) (hT : Tab w) (cs : List Value) (d : DataW H) (hd : Rd enc w 24 cs d) (hlen : fault 40 d = 0 → (textN 40 d).length ≤ 140737488355328) :
    Calls Tryd.prog 3 #[.agg cs.toArray] w fun e w' => e = .returned (.bool true) ∧ Below w.heap.size w w' := by
  obtain ⟨k, n, s, A, len, cap, it, rfl, hdd, hk, hn, hs, hA⟩ := hd.datum
  have HD := Lib.hid hd
  have HT := Lib.hid hT
  have HLEN := Lib.hid hlen
  have hw0 : Below w.heap.size w (w.alloc (.cells #[.int .i64 k, .int .i64 n, .string s, .slice A len cap] 24)) := (Below.refl _ _).alloc (Nat.le_refl _) _
  have HW0 := Lib.hid hw0
  obtain ⟨f, hf⟩ : ∃ f, fault 40 d = f := ⟨_, rfl⟩
  obtain ⟨T, hT⟩ : ∃ T, (if fault 40 d = 0 then textN 40 d else []) = T := ⟨_, rfl⟩
  have HF := Lib.hid hf
  have HTX := Lib.hid hT
  clear hd hdd hk hn hs hA hT hlen hw0 hf
  go_enter Tryd.func3, Tryd.ntmps3
  go_wp2_with fail
  refine (show_any _ (HT.out.below HW0.out) [.int .i64 k, .int .i64 n, .string s, .slice A len cap] d (HD.out.below readableDatum rowDatum HW0.out) HLEN.out).mono ?_
  rintro e w1 ⟨he, hb1⟩
  rw [HTX.out, HF.out] at he
  subst he
  have c0 : w1.cell? ⟨w.heap.size, 0, none⟩ = some (.int .i64 k) := box_cell hb1 rfl
  have c1 : w1.cell? ⟨w.heap.size, 1, none⟩ = some (.int .i64 n) := box_cell hb1 rfl
  have c2 : w1.cell? ⟨w.heap.size, 2, none⟩ = some (.string s) := box_cell hb1 rfl
  have c3 : w1.cell? ⟨w.heap.size, 3, none⟩ = some (.slice A len cap) := box_cell hb1 rfl
  have HB := Lib.hid (HW0.out.trans (hb1.mono (by simp)))
  clear hb1
  go_wp2_with fail
  refine (shown_any _ [.int .i64 k, .int .i64 n, .string s, .slice A len cap] d (HD.out.below readableDatum rowDatum HB.out) HLEN.out).mono ?_
  rintro e w2 ⟨he, hb2⟩
  rw [HTX.out, HF.out] at he
  subst he
  have HB2 := Lib.hid (HB.out.trans (hb2.mono HB.out.size))
  clear hb2
  go_wp2_with fail
  go_ret
  exact ⟨ret_bool (by simp), HB2.out⟩
end

namespace readShows
theorem own : ownKnob Tryd.prog.godebug = none := by kernel_rfl

theorem table {W : World} (h : laidMetH Tryd.prog Rows.readShowsRow.laid W) : Tab W := by
  rw [MakeChecks.laidMetH_plain _ _ _ (by kernel_rfl)] at h
  obtain ⟨ps, ⟨g0, t0, cs0, f0, p0, q0, hg0, ht0, hv0, hd0, ⟨g1, t1, cs1, f1, p1, q1, hg1, ht1, hv1, hd1, ⟨g2, t2, cs2, f2, p2, q2, hg2, ht2, hv2, hd2, _, _⟩, _⟩, _⟩, _, _⟩ := h
  have hg : Tryd.prog.globalNamed "internal/strconv.uint64pow10" = some 0 := by kernel_rfl
  obtain rfl := Option.some.inj (hg.symm.trans hg2)
  have hty : (Tryd.prog.globals[0]?).map (·.type) = some 83 := by kernel_rfl
  obtain rfl := Option.some.inj (hty.symm.trans ht2)
  unfold Tab Lib.TabIs
  rw [hv2, ← Lib.cells_of_tab (k := .u64) (zs := Lib.pow10Tab) Tryd.underlying83 Tryd.underlying70 (by kernel_rfl) (by kernel_rfl) hd2]

theorem contract (H : Type) (enc : TypeId × Value → H) (W : World) (base : Nat) (args : Array Value) (ds gs : List (DataW H)) (before : List MemPlace)
    (hval : ∀ (j : Nat) t v, Tryd.f3.params[j]? = some t → args[j]? = some v → Value.okWide Tryd.prog W .any base t v)
    (hW : DataW.Whole enc Tryd.prog Tryd.f3.params.toList Rows.readShowsSpec.vars false W args.toList ds gs before) (hk : Rows.uptoSmall H (ds ++ gs) = true) (hL : laidMetH Tryd.prog Rows.readShowsRow.laid W) :
    Calls Tryd.prog 3 args W fun e W' => ∃ v, e = .returned v ∧ Rows.readShowsSpec.post enc Tryd.prog Tryd.f3 false true false false W args v W' := by
  have hW' := hW
  obtain ⟨p, q, hA0, hV, rfl, hfz, hnd⟩ := hW
  have hA : DataW.TrodAll enc Tryd.prog W 0 (fun _ => true) true Tryd.f3.params.toList args.toList ds p := hA0
  rw [Tryd.params3] at hA hval
  obtain ⟨v0, vs0, d0, ds0, p0, q0, hargs, rfl, rfl, h0, r0⟩ := trodAll_cons hA
  obtain ⟨rfl, rfl, rfl⟩ := trodAll_nil r0
  obtain rfl : args = #[v0] := by cases args; simp_all
  obtain ⟨rfl, rfl⟩ := trodVars_none hV
  obtain ⟨cs, rfl, hsz⟩ := okWide_struct Tryd.underlying24 (hval 0 _ _ rfl rfl)
  obtain ⟨fu, h0⟩ := h0
  have hbd := bulks.bound hk
  simp only [List.append_nil, Rows.uptoBulkAll] at hbd
  refine (readShows_walk W (table hL) cs.toList d0 ⟨fu, _, h0⟩ (fun hf => by have := text_len 40 W cs.toList d0 ⟨fu, _, h0⟩ hf; omega)).mono fun e W' ⟨he, hb⟩ => ⟨_, he, ?_⟩
  refine law_post (by kernel_rfl) rfl ⟨rfl, rfl, rfl⟩ ?_ hW' hb
  intro t ht
  rw [Tryd.params3] at ht
  simp at ht
  subst ht
  exact ⟨readableDatum, rowDatum⟩

/-- The door's own heap meets the condition. -/
theorem door_met (os : Os) (args : Array Value) : laidMet Tryd.prog Rows.readShowsUptoRow.laid ((World.doorLaid Tryd.prog 96 os).forCall (fun _ _ => 0) ⟨#[], args, []⟩).memory :=
  laidMet_of_run' 8 (by kernel_rfl) (by kernel_rfl)
theorem reads (os : Os) {H : Type} (enc : TypeId × Value → H) : ∃ places, DataW.whole enc Tryd.prog ((World.doorLaid Tryd.prog 96 os).forCall (fun _ _ => 0) ⟨#[], #[.agg #[.int .i64 0, .int .i64 0, .string ByteArray.empty, .slice none 0 0]], []⟩).memory Tryd.f3.params.toList Rows.readShowsSpec.vars false #[Value.agg #[.int .i64 0, .int .i64 0, .string ByteArray.empty, .slice none 0 0]].toList 8 =
    some ([.agg [.lit (.int .i64 0), .lit (.int .i64 0), .lit (.string []), .nil]], [], places) :=
  ⟨[], by kernel_rfl⟩

set_option maxRecDepth 100000 in
theorem lifted (os : Os) (started : os.Started) (H : Type) (enc : TypeId × Value → H) (F : Stop.Interp) :
    ReturnsInHanded {} Tryd.checked os 3 .any ((Rows.OpenSpec.upto Rows.readShowsSpec).preRow enc Tryd.prog Tryd.f3 Rows.readShowsUptoRow.domain false Rows.readShowsUptoRow.laid) (((Rows.OpenSpec.upto Rows.readShowsSpec).at F).post enc Tryd.prog Tryd.f3 false true false false) := by
  obtain ⟨places, hx⟩ := reads os enc
  refine returnsInHanded_of_row (C := Tryd.checked) (s := Rows.OpenSpec.upto Rows.readShowsSpec) own started (by kernel_rfl) Tryd.func3
    (witness_row_atRef (enc := enc) (C := Tryd.checked) false (World.doorLaid Tryd.prog 96 os) #[.agg #[.int .i64 0, .int .i64 0, .string ByteArray.empty, .slice none 0 0]] rfl (by kernel_rfl) (by kernel_rfl) (by kernel_rfl)
      (OpenSpec.preRow_of_cond 8 hx (by kernel_rfl) (fun k hk => by cases hk; kernel_rfl) (by kernel_rfl) (door_met os _))) ?_
  intro W base args ds gs before hval hW _ hcond _ hL _ _
  exact contract H enc W base args ds gs before hval hW (hcond _ rfl) hL

theorem said : Rows.ReadShowsUptoSaid :=
  OpenClaim.holds_of_cond 3 Tryd.f3 rfl rfl rfl rfl rfl rfl rfl ⟨rfl, rfl, rfl, rfl, rfl⟩ rfl rfl rfl rfl rfl (by kernel_rfl) Tryd.func3 (by kernel_rfl)
    (of_decide_eq_true (by kernel_rfl)) (by unfold Func.isWrapper; first | (rw [if_pos (by decide +kernel)]; kernel_rfl) | (rw [if_neg (by decide +kernel)]; exact ⟨rfl, rfl⟩))
    (fun os started H enc _ F => by rw [OpenClaim.pre_eq_preRow]; exact lifted os started H enc F)

theorem plain (f : FuncId) (fn : Func) (hf : Tryd.pinned.checked.prog.funcNamed "graftery/grafterylaw.ReadShows" = some f) (hfn : Tryd.pinned.checked.prog.funcs[f]? = some fn) :
    true = Tryd.pinned.checked.prog.looks [] ∧ ∀ (j : Nat) t, fn.params[j]? = some t → Tryd.pinned.checked.prog.wantsStandIn t = false := by
  obtain rfl : f = 3 := Option.some.inj ((show Tryd.prog.funcNamed "graftery/grafterylaw.ReadShows" = some 3 by kernel_rfl).symm.trans hf) |>.symm
  obtain rfl : fn = Tryd.f3 := (Option.some.inj (Tryd.func3.symm.trans hfn)).symm
  refine ⟨by kernel_rfl, fun j t ht => ?_⟩
  rw [Tryd.params3] at ht
  obtain rfl : t = 24 := by simpa using Array.mem_of_getElem? ht
  exact (show Tryd.prog.wantsStandIn 24 = false by kernel_rfl)
end readShows

/-- The second form's card. -/
theorem readShows_upto_card : Rows.ReadShowsUptoCardSaid :=
  Claim7.holds_tied_plain_at .later [] _ _ _ _ readShows.said (fun _ h => by cases h) (by kernel_rfl) (fun _ h => by cases h) readShowsUpto_row_tie rfl ⟨rfl, rfl⟩ (by kernel_rfl) rfl readShows.plain (by kernel_rfl)
end Go.Proofs.YtbkagjngckfonaaDoor
