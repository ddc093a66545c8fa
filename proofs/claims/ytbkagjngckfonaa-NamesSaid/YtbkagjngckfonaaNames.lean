/- Proved: grafterylaw.Names returns true (the numbers, kinds and limits of package api are the document's). Conditions: none beyond the given row's own. (Printed by gen_names.py.) -/
import Derived.Test.YtbkagjngckfonaaTwo
import Derived.Test.YtbkagjngckfonaaLaw
import Derived.Deep.LoopGhost
import Derived.BigQuiet
import Derived.Deep.DeepCutAuto
namespace Go.Proofs.Ytbkagjngckfonaa
open Go.RowKit Go.ChangeShapes Go.WideShapes Go.Deep Go.ChangeAt
set_option linter.unusedVariables false

theorem infoInt : (Try.prog.info? 3).map (fun i => (i.zero, i.size, i.bytes)) = some (some (.int .i64 0), 1, 8) := by kernel_rfl
def iv (l : List Int) : List Value := l.map (Value.int .i64)
theorem iv_append (a b : List Int) : iv (a ++ b) = iv a ++ iv b := List.map_append
theorem iv_length (a : List Int) : (iv a).length = a.length := List.length_map _
theorem iv_one (l : List Int) : ∀ u ∈ iv l, u.oneCell' = true := by
  intro u hu
  obtain ⟨s, _, rfl⟩ := List.mem_map.1 hu
  rfl
def limN : List Int := [3000, 40, 400, 16, 1099511627776, 6, 40, 6, 8, 20, 40, 2000, 6000, 6000, 100, 60000, 50, 20000, 10, 50, 200]
def kindN : List Int := [1, 2, 3, 4, 1, 2, 3, 4, 5, 6, 7, 8, 9, 10]
def exprN : List Int := [1, 2, 3, 4, 5, 6, 7, 8, 9, 10, 11, 12, 13, 14, 15]
def operN : List Int := [1, 2, 3, 4, 5, 6, 7, 8, 9, 10, 11, 12, 13, 14, 15, 16, 17, 18, 19, 20, 21, 22]
def actN : List Int := [1, 2, 3]
def allN : List Int := limN ++ kindN ++ exprN ++ operN ++ actN
def upN (k : Nat) : List Int := (List.range k).map (fun j : Nat => (j : Int) + 1)
theorem upN_succ (k : Nat) : upN (k + 1) = upN k ++ [(k : Int) + 1] := by unfold upN; rw [List.range_succ, List.map_append]; rfl
theorem upN_length (k : Nat) : (upN k).length = k := by simp [upN]
theorem upN_expr : upN 15 = exprN := rfl
theorem upN_oper : upN 22 = operN := rfl
theorem allN_length : allN.length = 75 := rfl
theorem lit_21 : (#[.int .i64 3000, .int .i64 40, .int .i64 400, .int .i64 16, .int .i64 1099511627776, .int .i64 6, .int .i64 40, .int .i64 6, .int .i64 8, .int .i64 20, .int .i64 40, .int .i64 2000, .int .i64 6000, .int .i64 6000, .int .i64 100, .int .i64 60000, .int .i64 50, .int .i64 20000, .int .i64 10, .int .i64 50, .int .i64 200] : Array Value).toList = iv limN := rfl
theorem lit_14 : (#[.int .i64 1, .int .i64 2, .int .i64 3, .int .i64 4, .int .i64 1, .int .i64 2, .int .i64 3, .int .i64 4, .int .i64 5, .int .i64 6, .int .i64 7, .int .i64 8, .int .i64 9, .int .i64 10] : Array Value).toList = iv kindN := rfl
theorem lit_15 : (#[.int .i64 1, .int .i64 2, .int .i64 3, .int .i64 4, .int .i64 5, .int .i64 6, .int .i64 7, .int .i64 8, .int .i64 9, .int .i64 10, .int .i64 11, .int .i64 12, .int .i64 13, .int .i64 14, .int .i64 15] : Array Value).toList = iv exprN := rfl
theorem lit_22 : (#[.int .i64 1, .int .i64 2, .int .i64 3, .int .i64 4, .int .i64 5, .int .i64 6, .int .i64 7, .int .i64 8, .int .i64 9, .int .i64 10, .int .i64 11, .int .i64 12, .int .i64 13, .int .i64 14, .int .i64 15, .int .i64 16, .int .i64 17, .int .i64 18, .int .i64 19, .int .i64 20, .int .i64 21, .int .i64 22] : Array Value).toList = iv operN := rfl
theorem lit_3 : (#[.int .i64 1, .int .i64 2, .int .i64 3] : Array Value).toList = iv actN := rfl
theorem errs_at : ∀ k : Nat, k < 16 → (#[.int .i64 0, .int .i64 1, .int .i64 2, .int .i64 3, .int .i64 4, .int .i64 5, .int .i64 6, .int .i64 7, .int .i64 8, .int .i64 9, .int .i64 10, .int .i64 11, .int .i64 12, .int .i64 13, .int .i64 14, .int .i64 15] : Array Value)[k]? = some (.int .i64 k)
  | 0, _ => rfl
  | 1, _ => rfl
  | 2, _ => rfl
  | 3, _ => rfl
  | 4, _ => rfl
  | 5, _ => rfl
  | 6, _ => rfl
  | 7, _ => rfl
  | 8, _ => rfl
  | 9, _ => rfl
  | 10, _ => rfl
  | 11, _ => rfl
  | 12, _ => rfl
  | 13, _ => rfl
  | 14, _ => rfl
  | 15, _ => rfl
  | n + 16, h => absurd h (by omega)
theorem own_lit_at {w : World} {base g : Nat} {e : TypeId} (cs : Array Value) (n : Nat) (xs : List Value) (hx : cs.toList = xs) (hn : cs.size = n) (hb : base ≤ w.heap.size) (hm : n ≤ maxLen) (hg : g = w.heap.size) :
    (w.alloc (.cells cs e)).ownsRow base e 1 (.slice (some ⟨g, 0, none⟩) n n) n xs := by
  subst hg; exact own_lit cs n xs hx hn hb hm
theorem iv_at : ∀ k : Nat, k < 75 → (iv allN)[k]? = some (.int .i64 (allN.getD k 0)) := by
  intro k hk
  have h1 : k < allN.length := by rw [allN_length]; exact hk
  unfold iv
  rw [List.getElem?_map, List.getElem?_eq_getElem h1, List.getD_eq_getElem?_getD, List.getElem?_eq_getElem h1]
  rfl
theorem shape_own {w : World} {base : Nat} {e : TypeId} {v : Value} {n : Nat} {xs : List Value} (h : w.ownsRow base e 1 v n xs) (hv : v.ownBlock ≠ none) : ∃ g cap, v = .slice (some ⟨g, 0, none⟩) n cap ∧ base ≤ g ∧ n ≤ cap ∧ cap ≤ maxLen ∧ ∀ j, j < n → w.cell? ⟨g, j, none⟩ = xs[j]? := by
  have h0 := h
  rcases h.2 with ⟨rfl, _⟩ | ⟨g, cap, cur, rfl, hb, hh, h1, h2, _⟩
  · exact absurd rfl hv
  · exact ⟨g, cap, rfl, hb, h1, h2, fun j hj => h0.cellAt j (by omega)⟩

/-- Two rows of numbers of the call's own, apart from each other. -/
structure Two (w0 w : World) (u v : Value) (a b : List Int) : Prop where
  left : w.ownsRow w0.heap.size 3 1 u a.length (iv a)
  leftIs : u.ownBlock ≠ none
  right : w.ownsRow w0.heap.size 3 1 v b.length (iv b)
  rightIs : v.ownBlock ≠ none
  apart : u.ownBlock ≠ v.ownBlock
  below : Below w0.heap.size w0 w
theorem Two.swap {w0 w : World} {u v : Value} {a b : List Int} (h : Two w0 w u v a b) : Two w0 w v u b a := ⟨h.right, h.rightIs, h.left, h.leftIs, fun e => h.apart e.symm, h.below⟩
theorem Two.alloc {w0 w : World} {u v : Value} {a b : List Int} (h : Two w0 w u v a b) (o : Obj) : Two w0 (w.alloc o) u v a b :=
  ⟨h.left.alloc o, h.leftIs, h.right.alloc o, h.rightIs, h.apart, h.below.alloc h.below.size o⟩

theorem wp_two {w0 w : World} {ops : Array Oper} {rest : List Oper} {o : Oper} {act : Act} {Q : Exit → Act → World → Prop} (hgd : o.guard = none) (s x : Operand)
    (ho : o.op = .call { callee := .builtin .append, args := #[s, x], argTypes := #[24, 24] }) {v u : Value} {a b : List Int} (hT : Two w0 w v u a b)
    (cs : Array Value) (news : List Int) (m : Nat) (hcs : cs.toList = iv news) (hm : news.length = m) (hs : act.eval s = v) (hx : act.eval x = .slice (some ⟨w.heap.size, 0, none⟩) m m) (hb : a.length + m ≤ 1000)
    (h : ∀ v' w', Two w0 w' v' u (a ++ news) b → wpList Try.prog ops Q rest (act.put o.dst v') w') : wpList Try.prog ops Q (o :: rest) act (w.alloc (.cells cs 3)) := by
  obtain ⟨i0, hi, hz0, hz1, hz2⟩ := info_parts infoInt
  have hA := hT.alloc (.cells cs 3)
  refine wpList_append_two hgd s x 24 ho w0.heap.size 3 i0 (.int .i64 0) 1 8 Try.underlying24 hi hz0 hz1 hz2 rfl (by decide) v a.length (iv a) hs hA.left hA.leftIs u b.length (iv b) hA.right (fun e => hA.apart e.symm)
    ⟨w.heap.size, 0, none⟩ m m (iv news) hx (by rw [iv_length, hm, Nat.mul_one]) (cells_lit cs _ hcs) (iv_one _) (by unfold maxLen; omega) (by omega) hA.below.size ?_
  intro v' w' h1 h2 h3 h4 h5
  refine h v' w' ⟨?_, h2, h3, hT.rightIs, fun e => h4 e.symm, hA.below.trans h5⟩
  rw [iv_append, List.length_append, hm]
  exact h1

set_option maxHeartbeats 4000000 in
set_option maxRecDepth 100000 in
theorem names_walk (w : World) : Calls Try.prog 3 #[] w fun e w' => e = .returned (.bool true) ∧ Below w.heap.size w w' := by
  go_enter Try.func3, Try.ntmps3
  go_wp2_with fail
  go_loopw [2] (fun i wr => ∃ k : Nat, k ≤ 16 ∧ i = .int .i64 k ∧ Below w.heap.size w wr ∧ w.heap.size < wr.heap.size ∧ ∀ j : Nat, j < 16 → wr.cell? ⟨w.heap.size, j, none⟩ = some (.int .i64 j)) (fun i _ => 16 - (intOf i).toNat)
  case atStart =>
    refine ⟨0, by omega, rfl, (Below.refl _ _).alloc (Nat.le_refl _) _, by simp, fun j hj => ?_⟩
    have : ∀ (W : World) (cs : Array Value) (t : TypeId) (j : Nat), (W.alloc (.cells cs t)).cell? ⟨W.heap.size, j, none⟩ = cs[j]? := by
      intro W cs t j
      have : (W.alloc (.cells cs t)).heap[W.heap.size]? = some (.cells cs t) := (MapKept.heap_alloc W _).1
      unfold World.cell?
      rw [this]
      simp
    rw [this]
    exact errs_at j hj
  case round =>
    obtain ⟨k, hk, rfl, hb, hsz, hall⟩ := hrel
    have HALL := Lib.hid hall
    have HB := Lib.hid hb
    clear hall hb
    by_cases hlt : k < 16
    · have hc := HALL.out k hlt
      go_wp2_with fail
      go_roundw
      case rel => exact ⟨k + 1, by omega, by go_num, HB.out, hsz, HALL.out⟩
      case measure => simp [intOf]; omega
    · obtain rfl : k = 16 := by omega
      clear hlt
      go_upto_region 8 with fail
      go_cut [3, 4] (fun u v wx => Two w wx u v limN limN)
      case first =>
        go_wp2_with fail
        go_meet
        exact ⟨(own_lit _ 21 (iv limN) lit_21 rfl (by have := HB.out.size; omega) (by decide)).alloc _, by simp [Value.ownBlock], own_lit_at _ 21 (iv limN) lit_21 rfl (by have := HB.out.size; simp; omega) (by decide) (by simp), by simp [Value.ownBlock], by simp [Value.ownBlock], (HB.out.alloc HB.out.size _).alloc (by have := HB.out.size; simp; omega) _⟩
      case rest =>
        clear HALL HB hsz
        have HT := Lib.hid hcut
        clear hcut
        go_upto_region 9 with fail
        go_cut [3, 4] (fun u v wx => Two w wx u v (limN ++ kindN) (limN))
        case first =>
          go_wp2_with (at_builtin; refine wp_two rfl (.tmp 23) (.tmp 24) rfl (HT.out) #[.int .i64 1, .int .i64 2, .int .i64 3, .int .i64 4, .int .i64 1, .int .i64 2, .int .i64 3, .int .i64 4, .int .i64 5, .int .i64 6, .int .i64 7, .int .i64 8, .int .i64 9, .int .i64 10] kindN 14 lit_14 rfl rfl rfl (by decide) ?_; intro v1 w1 h1; have HT1 := Lib.hid h1; clear h1)
          go_meet
          exact HT1.out
        case rest =>
          clear HT
          have HT := Lib.hid hcut
          clear hcut
          go_upto_region 10 with fail
          go_cut [3, 4] (fun u v wx => Two w wx u v (limN ++ kindN) (limN ++ kindN))
          case first =>
            go_wp2_with (at_builtin; refine wp_two rfl (.tmp 26) (.tmp 27) rfl (HT.out.swap) #[.int .i64 1, .int .i64 2, .int .i64 3, .int .i64 4, .int .i64 1, .int .i64 2, .int .i64 3, .int .i64 4, .int .i64 5, .int .i64 6, .int .i64 7, .int .i64 8, .int .i64 9, .int .i64 10] kindN 14 lit_14 rfl rfl rfl (by decide) ?_; intro v1 w1 h1; have HT1 := Lib.hid h1; clear h1)
            go_meet
            exact HT1.out.swap
          case rest =>
            clear HT
            have HT := Lib.hid hcut
            clear hcut
            go_upto_region 11 with fail
            go_cut [3, 4] (fun u v wx => Two w wx u v (limN ++ kindN ++ exprN) (limN ++ kindN))
            case first =>
              go_wp2_with (at_builtin; refine wp_two rfl (.tmp 29) (.tmp 30) rfl (HT.out) #[.int .i64 1, .int .i64 2, .int .i64 3, .int .i64 4, .int .i64 5, .int .i64 6, .int .i64 7, .int .i64 8, .int .i64 9, .int .i64 10, .int .i64 11, .int .i64 12, .int .i64 13, .int .i64 14, .int .i64 15] exprN 15 lit_15 rfl rfl rfl (by decide) ?_; intro v1 w1 h1; have HT1 := Lib.hid h1; clear h1)
              go_meet
              exact HT1.out
            case rest =>
              clear HT
              have HT := Lib.hid hcut
              clear hcut
              go_wp2_with fail
              go_loopg [4, 5] 15 (fun gm v i wx => ∃ k : Nat, gm = 15 - k ∧ k ≤ 15 ∧ i = .int .i64 ((k : Int) + 1) ∧ Two w wx u3 v (limN ++ kindN ++ exprN) (limN ++ kindN ++ upN k))
              case atStart => exact ⟨0, by omega, by omega, rfl, by have h := HT.out; simpa [upN] using h⟩
              case round =>
                obtain ⟨k, hgm, hk, rfl, htwo⟩ := hrel
                have HG := Lib.hid hgm
                clear hgm
                clear HT
                have HT := Lib.hid htwo
                clear htwo
                by_cases hlt : k < 15
                · have HLB := Lib.hid (show (limN ++ kindN ++ upN k).length + 1 ≤ 1000 from by rw [List.length_append, upN_length]; have : (limN ++ kindN).length = 35 := rfl; omega)
                  go_wp2_with (at_builtin; refine wp_two rfl (.tmp 36) (.tmp 38) rfl (HT.out.swap) #[.int .i64 ((k : Int) + 1)] [(k : Int) + 1] 1 rfl rfl rfl rfl HLB.out ?_; intro v1 w1 h1; have HT1 := Lib.hid h1; clear h1)
                  go_roundg (15 - (k + 1))
                  case rel => exact ⟨k + 1, rfl, by omega, by go_num, by have h := HT1.out.swap; rw [List.append_assoc (limN ++ kindN) (upN k), ← upN_succ] at h; exact h⟩
                  case measure => have := HG.out; omega
                · obtain rfl : k = 15 := by omega
                  clear hlt hk
                  have HT2 := Lib.hid (show Two w _ _ _ (limN ++ kindN ++ exprN) (limN ++ kindN ++ exprN) from by have h := HT.out; rw [upN_expr] at h; exact h)
                  clear HT
                  have HT := HT2
                  clear HT2
                  go_upto_region 16 with fail
                  go_cut [3, 4] (fun u v wx => Two w wx u v (limN ++ kindN ++ exprN ++ operN) (limN ++ kindN ++ exprN))
                  case first =>
                    go_wp2_with (at_builtin; refine wp_two rfl (.tmp 40) (.tmp 41) rfl (HT.out) #[.int .i64 1, .int .i64 2, .int .i64 3, .int .i64 4, .int .i64 5, .int .i64 6, .int .i64 7, .int .i64 8, .int .i64 9, .int .i64 10, .int .i64 11, .int .i64 12, .int .i64 13, .int .i64 14, .int .i64 15, .int .i64 16, .int .i64 17, .int .i64 18, .int .i64 19, .int .i64 20, .int .i64 21, .int .i64 22] operN 22 lit_22 rfl rfl rfl (by decide) ?_; intro v1 w1 h1; have HT1 := Lib.hid h1; clear h1)
                    go_meet
                    exact HT1.out
                  case rest =>
                    clear HT
                    have HT := Lib.hid hcut
                    clear hcut
                    go_wp2_with fail
                    go_loopg [4, 6] 22 (fun gm v i wx => ∃ k : Nat, gm = 22 - k ∧ k ≤ 22 ∧ i = .int .i64 ((k : Int) + 1) ∧ Two w wx u3 v (limN ++ kindN ++ exprN ++ operN) (limN ++ kindN ++ exprN ++ upN k))
                    case atStart => exact ⟨0, by omega, by omega, rfl, by have h := HT.out; simpa [upN] using h⟩
                    case round =>
                      obtain ⟨k, hgm, hk, rfl, htwo⟩ := hrel
                      have HG := Lib.hid hgm
                      clear hgm
                      clear HT
                      have HT := Lib.hid htwo
                      clear htwo
                      by_cases hlt : k < 22
                      · have HLB := Lib.hid (show (limN ++ kindN ++ exprN ++ upN k).length + 1 ≤ 1000 from by rw [List.length_append, upN_length]; have : (limN ++ kindN ++ exprN).length = 50 := rfl; omega)
                        go_wp2_with (at_builtin; refine wp_two rfl (.tmp 47) (.tmp 49) rfl (HT.out.swap) #[.int .i64 ((k : Int) + 1)] [(k : Int) + 1] 1 rfl rfl rfl rfl HLB.out ?_; intro v1 w1 h1; have HT1 := Lib.hid h1; clear h1)
                        go_roundg (22 - (k + 1))
                        case rel => exact ⟨k + 1, rfl, by omega, by go_num, by have h := HT1.out.swap; rw [List.append_assoc (limN ++ kindN ++ exprN) (upN k), ← upN_succ] at h; exact h⟩
                        case measure => have := HG.out; omega
                      · obtain rfl : k = 22 := by omega
                        clear hlt hk
                        have HT2 := Lib.hid (show Two w _ _ _ (limN ++ kindN ++ exprN ++ operN) (limN ++ kindN ++ exprN ++ operN) from by have h := HT.out; rw [upN_oper] at h; exact h)
                        clear HT
                        have HT := HT2
                        clear HT2
                        go_upto_region 21 with fail
                        go_cut [3, 4] (fun u v wx => Two w wx u v (allN) (limN ++ kindN ++ exprN ++ operN))
                        case first =>
                          go_wp2_with (at_builtin; refine wp_two rfl (.tmp 51) (.tmp 52) rfl (HT.out) #[.int .i64 1, .int .i64 2, .int .i64 3] actN 3 lit_3 rfl rfl rfl (by decide) ?_; intro v1 w1 h1; have HT1 := Lib.hid h1; clear h1)
                          go_meet
                          exact HT1.out
                        case rest =>
                          clear HT
                          have HT := Lib.hid hcut
                          clear hcut
                          go_upto_region 22 with fail
                          go_cut [3, 4] (fun u v wx => Two w wx u v (allN) (allN))
                          case first =>
                            go_wp2_with (at_builtin; refine wp_two rfl (.tmp 54) (.tmp 55) rfl (HT.out.swap) #[.int .i64 1, .int .i64 2, .int .i64 3] actN 3 lit_3 rfl rfl rfl (by decide) ?_; intro v1 w1 h1; have HT1 := Lib.hid h1; clear h1)
                            go_meet
                            exact HT1.out.swap
                          case rest =>
                            clear HT
                            have HT := Lib.hid hcut
                            clear hcut
                            have HL1 : ∃ g cap, u3 = .slice (some ⟨g, 0, none⟩) 75 cap ∧ w.heap.size ≤ g ∧ 75 ≤ cap ∧ cap ≤ maxLen ∧ ∀ j, j < 75 → wc.cell? ⟨g, j, none⟩ = (iv allN)[j]? := shape_own HT.out.left HT.out.leftIs
                            have HL2 : ∃ g cap, u4 = .slice (some ⟨g, 0, none⟩) 75 cap ∧ w.heap.size ≤ g ∧ 75 ≤ cap ∧ cap ≤ maxLen ∧ ∀ j, j < 75 → wc.cell? ⟨g, j, none⟩ = (iv allN)[j]? := shape_own HT.out.right HT.out.rightIs
                            obtain ⟨g1, c1, hv1, hb1, hn1, hm1, hc1⟩ := HL1
                            obtain ⟨g2, c2, hv2, hb2, hn2, hm2, hc2⟩ := HL2
                            subst hv1 hv2
                            have HC1 := Lib.hid hc1
                            have HC2 := Lib.hid hc2
                            have HBL := Lib.hid HT.out.below
                            have hm3 : c1 ≤ 9223372036854775807 := by unfold maxLen at hm1; omega
                            have hm4 : c2 ≤ 9223372036854775807 := by unfold maxLen at hm2; omega
                            clear hc1 hc2 HT hm1 hm2
                            go_wp2_with fail
                            go_loopg [7] 75 (fun gm i wx => ∃ k : Nat, gm = 75 - k ∧ k ≤ 75 ∧ i = .int .i64 k ∧ ∃ n, wc.drewN n = wx)
                            case atStart => exact ⟨0, by omega, by omega, rfl, 0, rfl⟩
                            case round =>
                              obtain ⟨k, hgm, hk, rfl, n, rfl⟩ := hrel
                              have HG := Lib.hid hgm
                              clear hgm
                              by_cases hlt : k < 75
                              · have hz := iv_at k hlt
                                obtain ⟨z, hz⟩ : ∃ z, (iv allN)[k]? = some (.int .i64 z) := ⟨_, hz⟩
                                have x1 : wc.cell? ⟨g1, k, none⟩ = some (.int .i64 z) := (HC1.out k hlt).trans hz
                                have x2 : wc.cell? ⟨g2, k, none⟩ = some (.int .i64 z) := (HC2.out k hlt).trans hz
                                clear hz
                                go_wp2_with fail
                                go_quiet (fail)
                                go_wp2_with fail
                                go_roundg (75 - (k + 1))
                                case rel => exact ⟨k + 1, rfl, by omega, by go_num, _, rfl⟩
                                case measure => have := HG.out; omega
                              · obtain rfl : k = 75 := by omega
                                clear hlt hk
                                go_wp2_with fail
                                go_ret
                                exact ⟨rfl, HBL.out.os, HBL.out.tape, HBL.out.output, HBL.out.size, HBL.out.block⟩

namespace names
theorem own : ownKnob Try.prog.godebug = none := by kernel_rfl

theorem contract (H : Type) (enc : TypeId × Value → H) (W : World) (base : Nat) (args : Array Value) (ds gs : List (DataW H)) (before : List MemPlace)
    (hW : DataW.Whole enc Try.prog Try.f3.params.toList Rows.namesSpec.vars false W args.toList ds gs before) :
    Calls Try.prog 3 args W fun e W' => ∃ v, e = .returned v ∧ Rows.namesSpec.post enc Try.prog Try.f3 false true false false W args v W' := by
  have hW' := hW
  obtain ⟨p, q, hA0, hV, rfl, hfz, hnd⟩ := hW
  have hA : DataW.TrodAll enc Try.prog W 0 (fun _ => true) true Try.f3.params.toList args.toList ds p := hA0
  rw [Try.params3] at hA
  obtain ⟨hargs, rfl, rfl⟩ := trodAll_nil hA
  obtain rfl : args = #[] := by cases args; simp_all
  obtain ⟨rfl, rfl⟩ := trodVars_none hV
  refine (names_walk W).mono fun e W' ⟨he, hb⟩ => ⟨_, he, ?_⟩
  refine law_post (by kernel_rfl) rfl ⟨rfl, rfl, rfl⟩ ?_ hW' hb
  intro t ht
  rw [Try.params3] at ht
  simp at ht

set_option maxRecDepth 100000 in
theorem lifted (os : Os) (started : os.Started) (H : Type) (enc : TypeId × Value → H) :
    ReturnsInHanded {} Try.checked os 3 .any (Rows.namesSpec.pre6 enc Try.prog Try.f3 Rows.namesRow.domain false) (Rows.namesSpec.post enc Try.prog Try.f3 false true false false) := by
  refine returnsInHanded_of_change (C := Try.checked) own started (by kernel_rfl) Try.func3
    (ChangeSpec.witness6 (enc := enc) (C := Try.checked) false ⟨#[], #[], []⟩ 8 (by kernel_rfl) (by kernel_rfl) (by kernel_rfl) (by kernel_rfl)) ?_
  intro W base args ds gs before hval hW _ _
  exact contract H enc W base args ds gs before hW

theorem over : Rows.namesRow.holds Try.pinned (OpenSpec.ofChange Rows.namesSpec) :=
  OpenClaim.holds_of_wide 3 Try.f3 rfl rfl rfl rfl rfl rfl rfl ⟨rfl, rfl, rfl, rfl, rfl⟩ rfl rfl rfl rfl rfl (by kernel_rfl) Try.func3 (by kernel_rfl)
    (of_decide_eq_true (by kernel_rfl)) (by unfold Func.isWrapper; first | (rw [if_pos (by decide +kernel)]; kernel_rfl) | (rw [if_neg (by decide +kernel)]; exact ⟨rfl, rfl⟩))
    (fun os started H enc _ => lifted os started H enc)
end names

/-- The statement. -/
theorem names_holds : Rows.NamesSaid := names.over
end Go.Proofs.Ytbkagjngckfonaa
