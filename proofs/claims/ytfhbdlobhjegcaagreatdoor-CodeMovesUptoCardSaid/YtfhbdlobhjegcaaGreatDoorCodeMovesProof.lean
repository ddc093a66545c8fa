/- Proved: the second form's tied card of grafterylaw.CodeMoves: it returns true for every expression and every row of old numbers whose values, all of them together, are at most 1,048,576 (code.Move answers what the reference answers, and its code, run by the reference, does what the reference's model says). Conditions: none beyond the given row's own (the bound, the three listed maps, tied to the program's text). -/
import Derived.Test.YtfhbdlobhjegcaaGreatDoorSl
import Derived.Test.YtfhbdlobhjegcaaGreatDoorGTree
import Derived.Test.YtfhbdlobhjegcaaGreatDoorCards
import Derived.Test.YtfhbdlobhjegcaaGreatDoorTie
import Derived.Deep.DeepHandedRow
import Derived.Deep.DeepWitnessRowRef
import Derived.LaidMore
import Derived.LaidLaws
namespace Go.Proofs.YtfhbdlobhjegcaaGreatDoor
open Go.RowKit Go.ChangeShapes Go.WideShapes Go.Deep Go.ChangeAt
set_option linter.unusedVariables false
set_option maxRecDepth 20000
section
variable {H : Type} {enc : TypeId × Value -> H}
theorem Rd.nums {w : World} {cs : List Value} {d : DataW H} (h : Rd enc w 29 cs d) : ∃ A N cap ns, cs = [.slice A N cap] /\ NsAt w A N cap ns := by
 obtain ⟨A, N, cap, rfl, hs⟩ := h.slAt Tryz.underlying29 cellsInt (by decide)
 have hx : ∀ i : Fin N, ∃ n : Int, ∀ b o, A = some ⟨b, o, none⟩ -> w.cell? ⟨b, o + i.1, none⟩ = some (.int .i64 n) := fun i => by
  obtain ⟨b, o, rfl, hl, hr⟩ := hs.at_ (Nat.lt_of_le_of_lt (Nat.zero_le _) i.2)
  obtain ⟨cs', _, h2, h3⟩ := hr i.1 (by rw [hs.size]; exact i.2)
  obtain ⟨n, rfl, _⟩ := h3.int Tryz.underlying3
  refine ⟨n, fun b' o' e => ?_⟩
  obtain ⟨rfl, rfl⟩ : b = b' /\ o = o' := by simpa using e
  have := h2 0 (by simp)
  simpa using this
 obtain ⟨f, hf⟩ := Classical.axiomOfChoice hx
 refine ⟨A, N, cap, List.ofFn f, rfl, by simp, hs.le, hs.wide, fun h0 => ?_⟩
 obtain ⟨b, o, hA, hl, _⟩ := hs.at_ h0
 exact ⟨b, o, hA, hl, fun i hi => by rw [List.getElem_ofFn]; exact hf ⟨i, by simpa using hi⟩ b o hA⟩
theorem law_any {n : Nat} {w : World} {cs : List Value} {t : Tr n} {d : DataW H} (hx : ExAt enc w n cs t) (hd : Rd enc w 28 cs d) (hb : Rows.uptoBulk d <= 1048576) (hm : CMaps w) {A : Option Addr} {N cap : Nat} {ns : List Int} (hA : NsAt w A N cap ns) : LawSays w cs A N cap := by
 have hcap : cap <= 9223372036854775807 := by have := hA.cap_; unfold maxLen at this; omega
 by_cases hf : (if (N : Int) < 0 \/ 6 < (N : Int) then 2 else exprF n t [] N) = 0
 ·
  have hN : ¬ ((N : Int) < 0 \/ 6 < (N : Int)) := fun h => by rw [if_pos h] at hf; cases hf
  rw [if_neg hN] at hf
  obtain ⟨p, q, h1, h2, h3, h4⟩ := px_of n hx hd (by omega) hf
  rw [Int.toNat_natCast] at h2
  by_cases h6 : 6000 < (codeOf p).length
  ·
   exact law_size hx hm hA.le hcap (by omega) hf h1 h2 h3 (by omega) h6
  exact law_ok hx hm hA.le hcap (by omega) hf h1 h2 h3 (by omega) hA h6
 exact law_bad hx hm hA.le hcap rfl hf
end
namespace codeMoves
theorem own : ownKnob Tryz.prog.godebug = none := by kernel_rfl
theorem maps {W : World} (h : laidMetH Tryz.prog Rows.codeMovesRow.laid W) : CMaps W := by
 rw [MakeChecks.laidMetH_plain _ _ _ (by kernel_rfl)] at h
 obtain ⟨ps, ⟨g0, t0, cs0, f0, p0, q0, hg0, ht0, hv0, hd0, ⟨g1, t1, cs1, f1, p1, q1, hg1, ht1, hv1, hd1, ⟨g2, t2, cs2, f2, p2, q2, hg2, ht2, hv2, hd2, _, _⟩, _⟩, _⟩, _, _⟩ := h
 exact ⟨⟨kw_of hg0 ht0 hv0 hd0, ar_of (by kernel_rfl) (by kernel_rfl) hg1 ht1 hv1 hd1⟩, ar_of (by kernel_rfl) (by kernel_rfl) hg2 ht2 hv2 hd2⟩
theorem contract (H : Type) (enc : TypeId × Value -> H) (W : World) (base : Nat) (args : Array Value) (ds gs : List (DataW H)) (before : List MemPlace)
  (hval : ∀ (j : Nat) t v, Tryz.f3.params[j]? = some t -> args[j]? = some v -> Value.okWide Tryz.prog W .any base t v)
  (hW : DataW.Whole enc Tryz.prog Tryz.f3.params.toList Rows.codeMovesSpec.vars false W args.toList ds gs before) (hk : Rows.uptoSmall H (ds ++ gs) = true) (hL : laidMetH Tryz.prog Rows.codeMovesRow.laid W) :
  Calls Tryz.prog 3 args W fun e W' => ∃ v, e = .returned v /\ Rows.codeMovesSpec.post enc Tryz.prog Tryz.f3 false true false false W args v W' := by
 have hW' := hW
 obtain ⟨p, q, hA0, hV, rfl, hfz, hnd⟩ := hW
 have hA : DataW.TrodAll enc Tryz.prog W 0 (fun _ => true) true Tryz.f3.params.toList args.toList ds p := hA0
 rw [Tryz.params3] at hA hval
 obtain ⟨v0, vs0, d0, ds0, p0, q0, hargs, rfl, rfl, h0, r0⟩ := trodAll_cons hA
 obtain ⟨v1, vs1, d1, ds1, p1, q1, rfl, rfl, rfl, h1, r1⟩ := trodAll_cons r0
 obtain ⟨rfl, rfl, rfl⟩ := trodAll_nil r1
 obtain rfl : args = #[v0, v1] := by cases args; simp_all
 obtain ⟨rfl, rfl⟩ := trodVars_none hV
 obtain ⟨cs, rfl, hsz⟩ := okWide_struct Tryz.underlying28 (hval 0 _ _ rfl rfl)
 obtain ⟨A0, n0, k0, rfl⟩ : ∃ A n k, v1 = .slice A n k := okWide_slice Tryz.underlying29 (hval 1 _ _ rfl rfl)
 obtain ⟨fu0, h0⟩ := h0
 obtain ⟨fu1, h1⟩ := h1
 have hbd := bulks.bound hk
 simp only [List.append_nil, Rows.uptoBulkAll] at hbd
 obtain ⟨A, N, cap, ns, hcA, hns⟩ := Rd.nums (enc := enc) (w := W) (cs := [.slice A0 n0 k0]) (d := d1) ⟨fu1, _, h1⟩
 obtain ⟨rfl, rfl, rfl⟩ : A0 = A /\ n0 = N /\ k0 = cap := by simpa using hcA
 have hr0 : Rd enc W 28 cs.toList d0 := ⟨fu0, _, h0⟩
 obtain ⟨x, hx⟩ := Rd.expr (enc := enc) (w := W) _ (Nat.le_refl _) hr0
 refine (law_any hx hr0 (by omega) (maps hL) hns).mono fun e W' ⟨he, hb⟩ => ⟨_, he, ?_⟩
 refine law_post (by kernel_rfl) rfl ⟨rfl, rfl, rfl⟩ ?_ hW' hb
 intro t ht
 rw [Tryz.params3] at ht
 simp at ht
 rcases ht with rfl | rfl
 ·
  exact ⟨readableExpr, rowExpr⟩
 exact ⟨by kernel_rfl, of_decide_eq_true (by kernel_rfl)⟩
theorem door_met (os : Os) (args : Array Value) : laidMet Tryz.prog Rows.codeMovesUptoRow.laid ((World.doorLaid Tryz.prog 224 os).forCall (fun _ _ => 0) ⟨#[], args, []⟩).memory :=
 laidMet_of_run' 8 (by kernel_rfl) (by kernel_rfl)
theorem reads (os : Os) {H : Type} (enc : TypeId × Value -> H) : ∃ places, DataW.whole enc Tryz.prog ((World.doorLaid Tryz.prog 224 os).forCall (fun _ _ => 0) ⟨#[], #[.agg #[.int .i64 0, .int .i64 0, .int .i64 0, .string ByteArray.empty, .slice none 0 0, .string ByteArray.empty, .int .i64 0, .slice none 0 0, .slice none 0 0], .slice none 0 0], []⟩).memory Tryz.f3.params.toList Rows.codeMovesSpec.vars false #[Value.agg #[.int .i64 0, .int .i64 0, .int .i64 0, .string ByteArray.empty, .slice none 0 0, .string ByteArray.empty, .int .i64 0, .slice none 0 0, .slice none 0 0], .slice none 0 0].toList 8 =
  some ([.agg [.lit (.int .i64 0), .agg [.lit (.int .i64 0), .lit (.int .i64 0), .lit (.string []), .nil], .lit (.string []), .lit (.int .i64 0), .nil, .nil], .nil], [], places) :=
 ⟨[], by kernel_rfl⟩
set_option maxRecDepth 100000 in
theorem lifted (os : Os) (started : os.Started) (H : Type) (enc : TypeId × Value -> H) (F : Stop.Interp) :
  ReturnsInHanded {} Tryz.checked os 3 .any ((Rows.OpenSpec.upto Rows.codeMovesSpec).preRow enc Tryz.prog Tryz.f3 Rows.codeMovesUptoRow.domain false Rows.codeMovesUptoRow.laid) (((Rows.OpenSpec.upto Rows.codeMovesSpec).at F).post enc Tryz.prog Tryz.f3 false true false false) := by
 obtain ⟨places, hx⟩ := reads os enc
 refine returnsInHanded_of_row (C := Tryz.checked) (s := Rows.OpenSpec.upto Rows.codeMovesSpec) own started (by kernel_rfl) Tryz.func3
  (witness_row_atRef (enc := enc) (C := Tryz.checked) false (World.doorLaid Tryz.prog 224 os) #[.agg #[.int .i64 0, .int .i64 0, .int .i64 0, .string ByteArray.empty, .slice none 0 0, .string ByteArray.empty, .int .i64 0, .slice none 0 0, .slice none 0 0], .slice none 0 0] rfl (by kernel_rfl) (by kernel_rfl) (by kernel_rfl)
    (OpenSpec.preRow_of_cond 8 hx (by kernel_rfl) (fun k hk => by cases hk; kernel_rfl) (by kernel_rfl) (door_met os _))) ?_
 intro W base args ds gs before hval hW _ hcond _ hL _ _
 exact contract H enc W base args ds gs before hval hW (hcond _ rfl) hL
theorem said : Rows.CodeMovesUptoSaid :=
 OpenClaim.holds_of_cond 3 Tryz.f3 rfl rfl rfl rfl rfl rfl rfl ⟨rfl, rfl, rfl, rfl, rfl⟩ rfl rfl rfl rfl rfl (by kernel_rfl) Tryz.func3 (by kernel_rfl)
  (of_decide_eq_true (by kernel_rfl)) (by unfold Func.isWrapper; first | (rw [if_pos (by decide +kernel)]; kernel_rfl) | (rw [if_neg (by decide +kernel)]; exact ⟨rfl, rfl⟩))
  (fun os started H enc _ F => by rw [OpenClaim.pre_eq_preRow]; exact lifted os started H enc F)
theorem plain (f : FuncId) (fn : Func) (hf : Tryz.pinned.checked.prog.funcNamed "graftery/grafterylaw.CodeMoves" = some f) (hfn : Tryz.pinned.checked.prog.funcs[f]? = some fn) :
  false = Tryz.pinned.checked.prog.looks [] /\ ∀ (j : Nat) t, fn.params[j]? = some t -> Tryz.pinned.checked.prog.wantsStandIn t = false := by
 obtain rfl : f = 3 := Option.some.inj ((show Tryz.prog.funcNamed "graftery/grafterylaw.CodeMoves" = some 3 by kernel_rfl).symm.trans hf) |>.symm
 obtain rfl : fn = Tryz.f3 := (Option.some.inj (Tryz.func3.symm.trans hfn)).symm
 refine ⟨by kernel_rfl, fun j t ht => ?_⟩
 rw [Tryz.params3] at ht
 have ht2 : t = 28 \/ t = 29 := by simpa using Array.mem_of_getElem? ht
 rcases ht2 with rfl | rfl
 ·
  exact (show Tryz.prog.wantsStandIn 28 = false by kernel_rfl)
 exact (show Tryz.prog.wantsStandIn 29 = false by kernel_rfl)
end codeMoves
theorem codeMoves_upto_card : Rows.CodeMovesUptoCardSaid :=
 Claim7.holds_tied_plain_at .later [] _ _ _ _ codeMoves.said (fun _ h => by cases h) (by kernel_rfl) (fun _ h => by cases h) codeMovesUpto_row_tie rfl ⟨rfl, rfl⟩ (by kernel_rfl) rfl codeMoves.plain (by kernel_rfl)
end Go.Proofs.YtfhbdlobhjegcaaGreatDoor
