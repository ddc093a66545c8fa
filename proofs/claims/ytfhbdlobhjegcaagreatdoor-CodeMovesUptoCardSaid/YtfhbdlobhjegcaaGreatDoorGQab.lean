import Derived.Test.YtfhbdlobhjegcaaGreatDoorGTree
import Derived.Test.YtfhbdlobhjegcaaGreatDoorGPlain
import Derived.Test.YtfhbdlobhjegcaaGreatDoorGBase
import Derived.Laws.MakeOwn
import Derived.Laws.Entries
import Derived.Deep.LoopGhost
import Derived.Laws.OwnMore
import Derived.Deep.DeepCutAuto
namespace Go.Proofs.YtfhbdlobhjegcaaGreatDoor
open Go.RowKit Go.ChangeShapes Go.WideShapes Go.Deep Go.ChangeAt
set_option linter.unusedVariables false
set_option maxRecDepth 20000
theorem zp {w w5 w' : World} {g : Nat} (hb : Below w.heap.size w w5) (hgw : w.heap.size <= g) (hg : w5.grownBy w' (some g)) : Below w.heap.size w w' :=
 ⟨hg.os.trans hb.os, hg.tape.trans hb.tape, hg.output.trans hb.output, Nat.le_trans hb.size hg.size, fun k hk => (hg.block k (Nat.lt_of_lt_of_le hk hb.size) (fun e => by have := Option.some.inj e; omega)).trans (hb.block k hk)⟩
def Wd.cells (x : Wd) : List Value := [.int .i64 x.k, .int .i64 x.n, .string x.s]
def Wd.agg (x : Wd) : Value := .agg #[.int .i64 x.k, .int .i64 x.n, .string x.s]
def kitWd : Kit Wd where
 k := 3
 cells := Wd.cells
 len x := rfl
 one x u hu := by
  simp only [Wd.cells, List.mem_cons, List.not_mem_nil, or_false] at hu
  rcases hu with rfl | rfl | rfl <;> rfl
 ok w x := True
 uses x b := False
 lt w x b h hb := hb.elim
 kept w w' x row h hg hn := trivial
structure WdsAt (w : World) (A : Option Addr) (len cap : Nat) (ws : List Wd) : Prop where
 size : ws.length = len
 le : len <= cap
 cap_ : cap <= maxLen
 at_ : 0 < len -> ∃ b o, A = some ⟨b, o, none⟩ /\ b < w.heap.size /\ ∀ i, (h : i < ws.length) -> w.cell? ⟨b, o + i * 3, none⟩ = some (.int .i64 ws[i].k) /\ w.cell? ⟨b, o + i * 3 + 1, none⟩ = some (.int .i64 ws[i].n) /\ w.cell? ⟨b, o + i * 3 + 2, none⟩ = some (.string ws[i].s)
theorem WdsAt.below {w w' : World} {A : Option Addr} {len cap : Nat} {ws : List Wd} (h : WdsAt w A len cap ws) (hb : Below w.heap.size w w') : WdsAt w' A len cap ws :=
 ⟨h.size, h.le, h.cap_, fun h0 => by
  obtain ⟨b, o, hA, hl, hc⟩ := h.at_ h0
  refine ⟨b, o, hA, Nat.lt_of_lt_of_le hl hb.size, fun i hi => ?_⟩
  obtain ⟨c0, c1, c2⟩ := hc i hi
  exact ⟨(hb.cell (p := ⟨b, o + i * 3, none⟩) hl).trans c0, (hb.cell (p := ⟨b, o + i * 3 + 1, none⟩) hl).trans c1, (hb.cell (p := ⟨b, o + i * 3 + 2, none⟩) hl).trans c2⟩⟩
theorem WdsAt.grown {w w' : World} {A : Option Addr} {len cap : Nat} {ws : List Wd} {row : Option Nat} (h : WdsAt w A len cap ws) (hg : w.grownBy w' row) (hne : ∀ b, inSl A len b -> row ≠ some b) : WdsAt w' A len cap ws :=
 ⟨h.size, h.le, h.cap_, fun h0 => by
  obtain ⟨b, o, rfl, hl, hc⟩ := h.at_ h0
  have hb : w'.heap[b]? = w.heap[b]? := hg.block b hl (fun e => hne b ⟨_, rfl, h0, rfl⟩ e.symm)
  refine ⟨b, o, rfl, Nat.lt_of_lt_of_le hl hg.size, fun i hi => ?_⟩
  obtain ⟨c0, c1, c2⟩ := hc i hi
  exact ⟨by rw [World.cell?_of_block (a := ⟨b, _, none⟩) hb]; exact c0, by rw [World.cell?_of_block (a := ⟨b, _, none⟩) hb]; exact c1, by rw [World.cell?_of_block (a := ⟨b, _, none⟩) hb]; exact c2⟩⟩
theorem WdsAt.nil (w : World) : WdsAt w none 0 0 [] := ⟨rfl, Nat.le_refl _, by unfold maxLen; omega, fun h => absurd h (by omega)⟩
theorem WdsAt.nth {w : World} {A : Option Addr} {len cap : Nat} {ws : List Wd} (h : WdsAt w A len cap ws) {i : Nat} {x : Wd} (hx : ws[i]? = some x) :
  ∃ b o, A = some ⟨b, o, none⟩ /\ b < w.heap.size /\ i < len /\ w.cell? ⟨b, o + i * 3, none⟩ = some (.int .i64 x.k) /\ w.cell? ⟨b, o + i * 3 + 1, none⟩ = some (.int .i64 x.n) /\ w.cell? ⟨b, o + i * 3 + 2, none⟩ = some (.string x.s) := by
 obtain ⟨hi, rfl⟩ := List.getElem?_eq_some_iff.1 hx
 have hl : i < len := by rw [<- h.size]; exact hi
 obtain ⟨b, o, hA, hb, hc⟩ := h.at_ (Nat.lt_of_le_of_lt (Nat.zero_le _) hl)
 exact ⟨b, o, hA, hb, hl, hc i hi⟩
theorem OwnAt.wds {ty : TypeId} {base : Nat} {w : World} {v : Value} {X : List Wd} (h : OwnAt kitWd ty base w v X) : ∃ A cap, v = .slice A X.length cap /\ WdsAt w A X.length cap X /\ ∀ a, A = some a -> base <= a.block := by
 obtain ⟨A, cap, rfl, h1, h2, hr, hA⟩ := h.form
 refine ⟨A, cap, rfl, ⟨rfl, h1, h2, fun h0 => ?_⟩, hA⟩
 obtain ⟨b, o, rfl, hl, hc⟩ := hr.at_ h0
 refine ⟨b, o, rfl, hl, fun i hi => ?_⟩
 obtain ⟨_, hc⟩ := hc i (by simpa using hi)
 rw [List.getElem_map] at hc
 exact ⟨hc 0 (by simp [kitWd, Wd.cells]), hc 1 (by simp [kitWd, Wd.cells]), hc 2 (by simp [kitWd, Wd.cells])⟩
def pairW : Wd := ⟨6, 0, ⟨#[]⟩⟩
def cloW : Wd := ⟨8, 0, ⟨#[]⟩⟩
def zeroW : Wd := ⟨1, 0, ⟨#[]⟩⟩
def trip (p : Wd × Wd) : List Wd := [pairW, p.1, p.2]
def flat (h : Hp) : List Wd := cloW :: zeroW :: h.flatMap trip
theorem trips_len (h : Hp) : (h.flatMap trip).length = 3 * h.length := by
 induction h with
 | nil => rfl
 | cons p h ih => rw [List.flatMap_cons, List.length_append, ih]; simp [trip]; omega
theorem flat_len (h : Hp) : (flat h).length = 2 + 3 * h.length := by unfold flat; rw [List.length_cons, List.length_cons, trips_len]; omega
theorem trips_at : (h : Hp) -> (i : Nat) -> (hi : i < h.length) -> (h.flatMap trip)[3 * i]? = some pairW /\ (h.flatMap trip)[3 * i + 1]? = some h[i].1 /\ (h.flatMap trip)[3 * i + 2]? = some h[i].2
 | p :: h, 0, _ => by simp [trip]
 | p :: h, i + 1, hi => by
  obtain ⟨h1, h2, h3⟩ := trips_at h i (by simpa using hi)
  have hl : (trip p).length = 3 := rfl
  rw [List.flatMap_cons]
  refine ⟨?_, ?_, ?_⟩
  ·
   rw [List.getElem?_append_right (by rw [hl]; omega), hl, show 3 * (i + 1) - 3 = 3 * i by omega]; exact h1
  ·
   rw [List.getElem?_append_right (by rw [hl]; omega), hl, show 3 * (i + 1) + 1 - 3 = 3 * i + 1 by omega]; simpa using h2
  rw [List.getElem?_append_right (by rw [hl]; omega), hl, show 3 * (i + 1) + 2 - 3 = 3 * i + 2 by omega]; simpa using h3
theorem flat_0 (h : Hp) : (flat h)[0]? = some cloW := rfl
theorem flat_1 (h : Hp) : (flat h)[1]? = some zeroW := rfl
theorem flat_at (h : Hp) (i : Nat) (hi : i < h.length) : (flat h)[2 + 3 * i]? = some pairW /\ (flat h)[2 + 3 * i + 1]? = some h[i].1 /\ (flat h)[2 + 3 * i + 2]? = some h[i].2 := by
 obtain ⟨h1, h2, h3⟩ := trips_at h i hi
 unfold flat
 refine ⟨?_, ?_, ?_⟩
 ·
  rw [show 2 + 3 * i = (3 * i) + 1 + 1 by omega]; exact h1
 ·
  rw [show 2 + 3 * i + 1 = (3 * i + 1) + 1 + 1 by omega]; exact h2
 rw [show 2 + 3 * i + 2 = (3 * i + 2) + 1 + 1 by omega]; exact h3
def begB (j : Nat) : Bool := j == 0 || (decide (2 <= j) && (j - 2) % 3 == 0)
theorem begB_at (i : Nat) : begB (2 + 3 * i) = true := by unfold begB; simp
theorem cell_first (w : World) (cs ds : Array Value) (t u : TypeId) (j : Nat) : ((w.alloc (.cells cs t)).alloc (.cells ds u)).cell? ⟨w.heap.size, j, none⟩ = cs[j]? :=
 (World.cell?_alloc_lt _ _ ⟨w.heap.size, j, none⟩ (by simp)).trans (za _ _ _ j)
theorem cell_second (w : World) (cs ds : Array Value) (t u : TypeId) (j : Nat) : ((w.alloc (.cells cs t)).alloc (.cells ds u)).cell? ⟨w.heap.size + 1, j, none⟩ = ds[j]? := by
 rw [show w.heap.size + 1 = (w.alloc (.cells cs t)).heap.size from by simp]; exact za _ _ _ j
def refersW (w : Wd) : Prop := w.k = 5 /\ w.s = ⟨#[]⟩
set_option maxHeartbeats 1000000 in
theorem wordMay_any (x : Wd) (hx : WOk x \/ refersW x) (w : World) :
  Calls Tryz.prog 46 #[.agg #[.int .i64 x.k, .int .i64 x.n, .string x.s]] w fun e w' => e = .returned (.bool true) /\ Below w.heap.size w w' := by
 obtain ⟨k, n, s⟩ := x
 have HW := Lib.hid ((Below.refl w.heap.size w).alloc (Nat.le_refl _) (.cells #[.int .i64 k, .int .i64 n, .string s] 49))
 rcases hx with (⟨h1, h2, h3, h4⟩ | ⟨h1, h2, h3, h4⟩ | ⟨h1, h2, h4⟩ | ⟨h1, h2, h3, h4⟩) | ⟨h1, h4⟩
 ·
  simp only at h1 h2 h3 h4
  subst h1 h4
  have HI := Lib.hid (fun w => in_any n (-1099511627776) 1099511627776 w)
  have HB := Lib.hid (inB_yes (a := n) (b := -1099511627776) (c := 1099511627776) ⟨by unfold big at h2; exact h2, by unfold big at h3; exact h3⟩)
  clear h2 h3
  go_enter Tryz.func46, Tryz.ntmps46
  go_wp2_with fail
  refine (HI.out _).mono ?_
  rintro e w1 ⟨rfl, rfl⟩
  rw [HB.out]
  go_wp2_with fail
  go_ret
  exact ⟨rfl, HW.out⟩
 ·
  simp only at h1 h2 h3 h4
  subst h1 h4
  have HI := Lib.hid (fun w => in_any n 0 1 w)
  have HB := Lib.hid (inB_yes (a := n) (b := 0) (c := 1) ⟨h2, h3⟩)
  clear h2 h3
  go_enter Tryz.func46, Tryz.ntmps46
  go_wp2_with fail
  refine (HI.out _).mono ?_
  rintro e w1 ⟨rfl, rfl⟩
  rw [HB.out]
  go_wp2_with fail
  go_ret
  exact ⟨rfl, HW.out⟩
 ·
  simp only at h1 h2 h4
  subst h1 h2 h4
  go_enter Tryz.func46, Tryz.ntmps46
  go_wp2_with fail
  go_ret
  exact ⟨rfl, HW.out⟩
 ·
  simp only at h1 h2 h3 h4
  subst h1 h2
  obtain ⟨m, hm⟩ : ∃ m : Int, (s.size : Int) = m := ⟨_, rfl⟩
  have HI := Lib.hid (fun w => in_any m 1 16 w)
  have HB := Lib.hid (inB_yes (a := m) (b := 1) (c := 16) ⟨by omega, by omega⟩)
  have hw : s.size <= 9223372036854775807 := by omega
  clear h3 h4
  go_enter Tryz.func46, Tryz.ntmps46
  go_wp2_with fail
  refine (HI.out _).mono ?_
  rintro e w1 ⟨rfl, rfl⟩
  rw [HB.out]
  go_wp2_with fail
  go_ret
  exact ⟨rfl, HW.out⟩
 simp only at h1 h4
 subst h1 h4
 go_enter Tryz.func46, Tryz.ntmps46
 go_wp2_with fail
 go_ret
 exact ⟨rfl, HW.out⟩
set_option maxHeartbeats 1000000 in
theorem where_any {w : World} {A : Option Addr} {len cap : Nat} {ws : List Wd} (hA : WdsAt w A len cap ws) (x : Wd) (hx : x.k = 5 -> ∃ (i : Nat) (y : Wd), x.n = i /\ ws[i]? = some y /\ y.k ≠ 10) :
  Calls Tryz.prog 49 #[.slice A len cap, .agg #[.int .i64 x.k, .int .i64 x.n, .string x.s]] w fun e w' => e = .returned (.agg #[.int .i64 x.k, .int .i64 x.n, .string x.s]) /\ Below w.heap.size w w' := by
 obtain ⟨k, n, s⟩ := x
 simp only at hx
 by_cases hk : k = 5
 ·
  obtain ⟨i, y, rfl, hy, hy2⟩ := hx hk
  subst hk
  obtain ⟨b, o, rfl, hb, hi, c0, c1, c2⟩ := hA.nth hy
  have h1 := hA.le
  have h2 := hA.cap_
  have hc : cap <= 9223372036854775807 := by unfold maxLen at h2; omega
  obtain ⟨yk, hyk⟩ : ∃ yk, y.k = yk := ⟨_, rfl⟩
  rw [hyk] at c0 hy2
  have hic : (i : Int) < (cap : Int) := by omega
  have hil : (i : Int) < (len : Int) := by omega
  have hi0 : (0 : Int) <= (i : Int) := Int.natCast_nonneg _
  have hbw : Below w.heap.size w ((w.alloc (.cells #[.int .i64 5, .int .i64 i, .string s] 49)).alloc (.cells #[.int .i64 0, .int .i64 0, .string ⟨#[]⟩] 49)) := ((Below.refl w.heap.size w).alloc (Nat.le_refl _) _).alloc (by simp) _
  have e0 : ((w.alloc (.cells #[.int .i64 5, .int .i64 i, .string s] 49)).alloc (.cells #[.int .i64 0, .int .i64 0, .string ⟨#[]⟩] 49)).cell? ⟨b, o + i * 3, none⟩ = some (.int .i64 yk) := (hbw.cell (p := ⟨b, o + i * 3, none⟩) hb).trans c0
  have HW := Lib.hid hbw
  clear hx hy hA c1 c2 h2 hyk hbw
  go_enter Tryz.func49, Tryz.ntmps49
  go_wp2_with fail
  go_loopw [] (fun wx => (w.alloc (.cells #[.int .i64 5, .int .i64 i, .string s] 49)).alloc (.cells #[.int .i64 0, .int .i64 0, .string ⟨#[]⟩] 49) = wx) (fun _ => 0)
  case atStart => rfl
  subst hrel
  go_wp2_with fail
  refine bodyPost_ret (v := .agg #[.int .i64 5, .int .i64 i, .string s]) (by simp [results, Tryz.results49, go_sem]) rfl ?_
  exact ⟨rfl, ((Below.refl w.heap.size w).alloc (Nat.le_refl _) _).alloc (by simp) _⟩
 have HW := Lib.hid (((Below.refl w.heap.size w).alloc (Nat.le_refl _) (.cells #[.int .i64 k, .int .i64 n, .string s] 49)).alloc (by simp) (.cells #[.int .i64 0, .int .i64 0, .string ⟨#[]⟩] 49))
 clear hx hA
 go_enter Tryz.func49, Tryz.ntmps49
 go_wp2_with fail
 go_loopw [] (fun wx => ((w.alloc (.cells #[.int .i64 k, .int .i64 n, .string s] 49)).alloc (.cells #[.int .i64 0, .int .i64 0, .string ⟨#[]⟩] 49)) = wx) (fun _ => 0)
 case atStart => rfl
 subst hrel
 go_wp2_with fail
 refine bodyPost_ret (v := .agg #[.int .i64 k, .int .i64 n, .string s]) (by simp [results, Tryz.results49, go_sem]) rfl ?_
 exact ⟨rfl, ((Below.refl w.heap.size w).alloc (Nat.le_refl _) _).alloc (by simp) _⟩
set_option maxHeartbeats 1000000 in
theorem countAt_any {w : World} {A : Option Addr} {len cap : Nat} {h : Hp} (hA : WdsAt w A len cap (flat h)) :
  Calls Tryz.prog 102 #[.slice A len cap, .int .i64 1, .int .i64 40] w fun e w' => e = .returned (.int .i64 0) /\ w = w' := by
 obtain ⟨b, o, rfl, hb, hi, c0, c1, c2⟩ := hA.nth (flat_1 h)
 have h1 := hA.le
 have h2 := hA.cap_
 have hc : cap <= 9223372036854775807 := by unfold maxLen at h2; omega
 have hlen : (1 : Int) < (len : Int) := by omega
 have hlen2 : (1 : Int) < (cap : Int) := by omega
 have HI := Lib.hid (fun w => in_any 0 0 40 w)
 have HB := Lib.hid (inB_yes (a := 0) (b := 0) (c := 40) ⟨by decide, by decide⟩)
 simp only [zeroW] at c0 c1 c2
 clear hA h2
 go_enter Tryz.func102, Tryz.ntmps102
 go_wp2_with fail
 refine (HI.out _).mono ?_
 rintro e w1 ⟨rfl, rfl⟩
 rw [HB.out]
 go_wp2_with fail
 go_ret
 exact ⟨rfl, rfl⟩
set_option maxHeartbeats 2000000 in
theorem thing_0 {w : World} {A : Option Addr} {len cap : Nat} {h : Hp} (hA : WdsAt w A len cap (flat h)) :
  Calls Tryz.prog 74 #[.slice A len cap, .int .i64 0] w fun e w' => e = .returned (.tuple #[.int .i64 2, .int .i64 2]) /\ Below w.heap.size w w' := by
 have KC := Lib.hid (fun (w' : World) (hb : Below w.heap.size w w') => countAt_any (hA.below hb))
 obtain ⟨b, o, rfl, hb, hi, c0, c1, c2⟩ := hA.nth (flat_0 h)
 have hl1 : 1 < len := by have h := hA.size; rw [flat_len] at h; omega
 have h1 := hA.le
 have h2 := hA.cap_
 have hc : cap <= 9223372036854775807 := by unfold maxLen at h2; omega
 have hlen : (2 : Int) <= (len : Int) := by omega
 have hlen2 : (0 : Int) < (cap : Int) := by omega
 have hlen3 : ¬ (len : Int) < 2 := by omega
 have HI := Lib.hid (fun w => in_any 0 0 1999 w)
 have HB := Lib.hid (inB_yes (a := 0) (b := 0) (c := 1999) ⟨by decide, by decide⟩)
 simp only [cloW, Nat.zero_mul, Nat.add_zero] at c0 c1 c2
 have HW := Lib.hid ((Below.refl w.heap.size w).alloc (Nat.le_refl _) (.cells #[.int .i64 8, .int .i64 0, .string ⟨#[]⟩] 49))
 clear hA h2
 go_enter Tryz.func74, Tryz.ntmps74
 go_wp2_with fail
 refine (KC.out _ HW.out).mono ?_
 rintro e w1 ⟨rfl, rfl⟩
 go_wp2_with fail
 refine (HI.out _).mono ?_
 rintro e w1 ⟨rfl, rfl⟩
 rw [HB.out]
 go_wp2_with fail
 go_ret2
 exact ⟨rfl, HW.out⟩
set_option maxHeartbeats 2000000 in
theorem thing_pair {w : World} {A : Option Addr} {len cap : Nat} {h : Hp} (hA : WdsAt w A len cap (flat h)) (i : Nat) (hi : i < h.length) (a : Int) (ha : a = pAt i) :
  Calls Tryz.prog 74 #[.slice A len cap, .int .i64 a] w fun e w' => e = .returned (.tuple #[.int .i64 3, .int .i64 1]) /\ Below w.heap.size w w' := by
 obtain ⟨b, o, rfl, hb, hl, c0, c1, c2⟩ := hA.nth (flat_at h i hi).1
 have hsz := hA.size
 rw [flat_len] at hsz
 obtain ⟨j, hj⟩ : ∃ j : Nat, 2 + 3 * i = j := ⟨_, rfl⟩
 rw [hj] at c0 c1 c2 hl
 obtain rfl : a = j := by rw [ha]; unfold pAt; omega
 have h1 := hA.le
 have h2 := hA.cap_
 have hc : cap <= 9223372036854775807 := by unfold maxLen at h2; omega
 have hlen : (j : Int) + 1 + 2 <= (len : Int) := by omega
 have hlen2 : (j : Int) < (cap : Int) := by omega
 have hlen3 : ¬ (len : Int) < (j : Int) + 1 + 2 := by omega
 have hlen4 : (j : Int) < (len : Int) := by omega
 have hj0 : (0 : Int) <= (j : Int) := by omega
 simp only [pairW] at c0 c1 c2
 have HW := Lib.hid ((Below.refl w.heap.size w).alloc (Nat.le_refl _) (.cells #[.int .i64 6, .int .i64 0, .string ⟨#[]⟩] 49))
 clear hA h2 ha
 go_enter Tryz.func74, Tryz.ntmps74
 go_wp2_with fail
 go_ret2
 exact ⟨rfl, HW.out⟩
structure BegAt (w : World) (A : Option Addr) (len cap : Nat) : Prop where
 le : len <= cap
 cap_ : cap <= maxLen
 at_ : 0 < len -> ∃ b o, A = some ⟨b, o, none⟩ /\ b < w.heap.size /\ ∀ j, j < len -> w.cell? ⟨b, o + j, none⟩ = some (.bool (begB j))
theorem BegAt.below {w w' : World} {A : Option Addr} {len cap : Nat} (h : BegAt w A len cap) (hb : Below w.heap.size w w') : BegAt w' A len cap :=
 ⟨h.le, h.cap_, fun h0 => by
  obtain ⟨b, o, hA, hl, hc⟩ := h.at_ h0
  exact ⟨b, o, hA, Nat.lt_of_lt_of_le hl hb.size, fun j hj => (hb.cell (p := ⟨b, o + j, none⟩) hl).trans (hc j hj)⟩⟩
set_option maxHeartbeats 1000000 in
theorem refersTo_any {w : World} {A : Option Addr} {len cap : Nat} (hA : BegAt w A len cap) (j : Nat) (hj : j < len) (hb : begB j = true) (a : Int) (ha : a = j) :
  Calls Tryz.prog 47 #[.slice A len cap, .int .i64 a] w fun e w' => e = .returned (.bool true) /\ w = w' := by
 subst ha
 obtain ⟨b, o, rfl, hbw, hc⟩ := hA.at_ (by omega)
 have c0 := hc j hj
 rw [hb] at c0
 have h1 := hA.le
 have h2 := hA.cap_
 have hcap : cap <= 9223372036854775807 := by unfold maxLen at h2; omega
 obtain ⟨m, hm⟩ : ∃ m : Int, (len : Int) - 1 = m := ⟨_, rfl⟩
 have HI := Lib.hid (fun w => in_any j 0 m w)
 have HB := Lib.hid (inB_yes (a := j) (b := 0) (c := m) ⟨by omega, by omega⟩)
 have HM := Lib.hid hm
 have hlen : (j : Int) < (len : Int) := by omega
 have hlen2 : (j : Int) < (cap : Int) := by omega
 have hj0 : (0 : Int) <= (j : Int) := by omega
 clear hA hc h2 hm
 go_enter Tryz.func47, Tryz.ntmps47
 go_wp2_with fail
 rw [HM.out]
 refine (HI.out _).mono ?_
 rintro e w1 ⟨rfl, rfl⟩
 rw [HB.out]
 go_wp2_with fail
 go_ret
 exact ⟨rfl, rfl⟩
/- Contracts of the reference's beginsOf, ValueMay, HeapMay over a heap of pairs. -/
structure BegL (w wr : World) (len a : Nat) : Prop where
 below : Below w.heap.size w wr
 lt : w.heap.size < wr.heap.size
 cells : ∀ j, j < len -> wr.cell? ⟨w.heap.size, j, none⟩ = some (.bool (begB j && decide (j < a)))
 frozen : ∀ j, wr.frozen? ⟨w.heap.size, j, none⟩ = false
theorem BegL.grow {w wr w' : World} {len a : Nat} (h : BegL w wr len a) (hb : Below wr.heap.size wr w') : BegL w w' len a :=
 ⟨h.below.trans (hb.mono h.below.size), Nat.lt_of_lt_of_le h.lt hb.size, fun j hj => (hb.cell (p := ⟨w.heap.size, j, none⟩) h.lt).trans (h.cells j hj), fun j => (hb.frozen (p := ⟨w.heap.size, j, none⟩) h.lt).trans (h.frozen j)⟩
theorem BegL.set {w wr : World} {len a a' : Nat} (h : BegL w wr len a) (ha : begB a = true) (h1 : a < a') (h2 : ∀ j, a < j -> j < a' -> begB j = false) : BegL w (wr.setCell ⟨w.heap.size, a, none⟩ (.bool true)) len a' := by
 have hg := zd wr w.heap.size a (.bool true)
 refine ⟨zp h.below (Nat.le_refl _) hg, Nat.lt_of_lt_of_le h.lt hg.size, fun j hj => ?_, fun j => ?_⟩
 ·
  by_cases e : j = a
  ·
   subst e
   rw [zh (h.cells j hj), ha, decide_eq_true h1]
   rfl
  rw [zg (h.cells j hj) e]
  by_cases hja : j < a
  ·
   rw [decide_eq_true hja, decide_eq_true (show j < a' by omega)]
  by_cases hja' : j < a'
  ·
   rw [h2 j (by omega) hja']
   rfl
  rw [decide_eq_false hja, decide_eq_false hja']
 rw [<- h.frozen j]
 simp
theorem begB_no0 : ∀ j, 0 < j -> j < 2 -> begB j = false := fun j h1 h2 => by
 obtain rfl : j = 1 := by omega
 rfl
theorem begB_no (i : Nat) : ∀ j, 2 + 3 * i < j -> j < 2 + 3 * (i + 1) -> begB j = false := fun j h1 h2 => by
 unfold begB
 rw [show (j == 0) = false by simp; omega, decide_eq_true (show 2 <= j by omega), show ((j - 2) % 3 == 0) = false by simp; omega]
 rfl
theorem infoBool : (Tryz.prog.info? 4).map (fun i => (i.zero, i.size, i.bytes)) = some (some (.bool false), 1, 1) := by kernel_rfl
theorem made_one (w : World) (z : Value) (n : Nat) (e : TypeId) (j : Nat) (hj : j < n) : (w.alloc (.cells (madeCells #[z] n) e)).cell? ⟨w.heap.size, j, none⟩ = some z := by
 rw [za, <- Array.getElem?_toList, toList_madeCells_one]
 simp [hj]
set_option maxHeartbeats 2000000 in
theorem beginsOf_any {w : World} {A : Option Addr} {len cap : Nat} {h : Hp} (hA : WdsAt w A len cap (flat h)) (hlen : len <= 1099511627776) :
  Calls Tryz.prog 45 #[.slice A len cap] w fun e w' => ∃ A', e = .returned (.tuple #[.slice A' len len, .bool true]) /\ Below w.heap.size w w' /\ BegAt w' A' len len := by
 have hsz := hA.size
 rw [flat_len] at hsz
 obtain ⟨i0, hi, hz0, hz1, hz2⟩ := info_parts infoBool
 have hmk : ∀ W : World, (Instr.makeSlice 117 (.int .i64 (len : Int)) (.int .i64 (len : Int))).run Tryz.prog W = .ok (.slice (some ⟨W.heap.size, 0, none⟩) len len) (W.alloc (.cells (madeCells #[.bool false] len) 4)) := by
  intro W
  have hr := run_make (P := Tryz.prog) W 117 4 i0 _ Tryz.underlying117 hi hz0 .i64 .i64 len len (by omega) (Int.le_refl _) (by rw [hz2]; omega) (by omega)
  simp only [Int.toNat_natCast, hz1, Nat.mul_one] at hr
  exact hr
 have hl63 : len <= 9223372036854775807 := by omega
 have HA := Lib.hid hA
 have HMK := Lib.hid (show BegL w (w.alloc (.cells (madeCells #[.bool false] len) 4)) len 0 from ⟨(Below.refl _ _).alloc (Nat.le_refl _) _, by simp, fun j hj => by rw [made_one _ _ _ _ _ hj]; simp, fun j => by simp⟩)
 clear hA
 go_enter Tryz.func45, Tryz.ntmps45
 go_wp2_with fail
 go_loopg [5, 6, 7] len (fun g ia iv iu wr => ∃ a : Nat, g = len - a /\ a <= len /\ ia = .int .i64 a /\ (a = 0 \/ ∃ i, i <= h.length /\ a = 2 + 3 * i) /\ BegL w wr len a)
 case atStart => exact ⟨0, by omega, by omega, rfl, Or.inl rfl, HMK.out⟩
 obtain ⟨a, hg, hal, rfl, hpos, hL⟩ := hrel
 have HG := Lib.hid hg
 have HL := Lib.hid hL
 have hla : (a : Int) < (len : Int) \/ a = len := by omega
 clear hg hL
 rcases hla with hla | rfl
 ·
  have hstep : ∃ n : Nat, (1 <= n /\ a + n <= len) /\ ((a + n = 0 \/ ∃ i, i <= h.length /\ a + n = 2 + 3 * i)) /\ begB a = true /\ (∀ j, a < j -> j < a + n -> begB j = false) /\ ∃ u : Int, ∀ W : World, Below w.heap.size w W -> Calls Tryz.prog 74 #[.slice A len cap, .int .i64 a] W fun e w' => e = .returned (.tuple #[.int .i64 n, .int .i64 u]) /\ Below W.heap.size W w' := by
   rcases hpos with rfl | ⟨i, hi, rfl⟩
   ·
    exact ⟨2, ⟨by decide, by omega⟩, Or.inr ⟨0, Nat.zero_le _, rfl⟩, rfl, by rw [Nat.zero_add]; exact begB_no0, 2, fun W hW => thing_0 (HA.out.below hW)⟩
   ·
    exact ⟨3, ⟨by decide, by omega⟩, Or.inr ⟨i + 1, by omega, by omega⟩, begB_at i, by rw [show 2 + 3 * i + 3 = 2 + 3 * (i + 1) by omega]; exact begB_no i, 1, fun W hW => thing_pair (HA.out.below hW) i (by omega) _ (by unfold pAt; omega)⟩
  obtain ⟨n, ⟨hn1, hn2⟩, hpos2, hb1, hb2, u, hT⟩ := hstep
  have HT := Lib.hid hT
  have HP := Lib.hid hpos2
  have HB1 := Lib.hid hb1
  have HB2 := Lib.hid hb2
  have hn0 : ¬ (n : Int) = 0 := by omega
  have ha0 : (0 : Int) <= (a : Int) := by omega
  have hw : (a : Int) + (n : Int) <= 9223372036854775807 := by omega
  clear hpos hT hpos2 hb1 hb2
  go_wp2_with fail
  refine (HT.out _ HL.out.below).mono ?_
  rintro e w1 ⟨rfl, hb⟩
  have HL1 := Lib.hid (HL.out.grow hb)
  have c0 := HL1.out.cells a (by omega)
  have c1 := HL1.out.frozen a
  clear hb
  go_wp2_with fail
  go_roundg (len - (a + n))
  case rel => exact ⟨a + n, rfl, by omega, by go_num, HP.out, HL1.out.set HB1.out (by omega) HB2.out⟩
  case measure => have := HG.out; omega
 go_wp2_with fail
 go_ret2
 exact ⟨_, rfl, HL.out.below, Nat.le_refl _, by unfold maxLen; omega, fun h0 => ⟨_, _, rfl, HL.out.lt, fun j hj => by rw [Nat.zero_add, HL.out.cells j hj, decide_eq_true hj, Bool.and_true]⟩⟩
def VOk (h : Hp) (x : Wd) : Prop := WIn h x \/ x = ⟨5, 0, ⟨#[]⟩⟩
theorem VOk.may {h : Hp} {x : Wd} (hx : VOk h x) : WOk x \/ refersW x := by
 rcases hx with (h | ⟨i, _, rfl⟩) | rfl
 ·
  exact Or.inl h
 ·
  exact Or.inr ⟨rfl, rfl⟩
 exact Or.inr ⟨rfl, rfl⟩
theorem WOk.not5 {x : Wd} (h : WOk x) : x.k ≠ 5 := by rcases h with h | h | h | h <;> omega
theorem VOk.ref {h : Hp} {x : Wd} (hx : VOk h x) (hk : x.k = 5) : ∃ j : Nat, x.n = j /\ j < (flat h).length /\ begB j = true /\ x.s = ⟨#[]⟩ := by
 rcases hx with (h | ⟨i, hi, rfl⟩) | rfl
 ·
  exact absurd hk h.not5
 ·
  refine ⟨2 + 3 * i, ?_, by rw [flat_len]; omega, begB_at i, rfl⟩
  show pAt i = _
  unfold pAt
  omega
 exact ⟨0, rfl, by rw [flat_len]; omega, rfl, rfl⟩
set_option maxHeartbeats 2000000 in
theorem valueMay_any {w : World} {A : Option Addr} {len cap : Nat} {h : Hp} (hA : WdsAt w A len cap (flat h)) (hlen : len <= 1099511627776) (lim : Int) (x : Wd) (hx : VOk h x) :
  Calls Tryz.prog 18 #[.agg #[.slice A len cap, .int .i64 lim], .agg #[.int .i64 x.k, .int .i64 x.n, .string x.s]] w fun e w' => e = .returned (.bool true) /\ Below w.heap.size w w' := by
 have hL := hA.size
 obtain ⟨k, n, s⟩ := x
 have hmay := Lib.hid (fun W => wordMay_any ⟨k, n, s⟩ hx.may W)
 have hw0 : Below w.heap.size w ((w.alloc (.cells #[.slice A len cap, .int .i64 lim] 44)).alloc (.cells #[.int .i64 k, .int .i64 n, .string s] 49)) := ((Below.refl w.heap.size w).alloc (Nat.le_refl _) _).alloc (by simp) _
 have HW := Lib.hid hw0
 have KB := Lib.hid (beginsOf_any (hA.below hw0) hlen)
 have hk : k ≠ 5 \/ k = 5 := by omega
 rcases hk with hk | hk
 ·
  clear hA hw0 hx
  go_enter Tryz.func18, Tryz.ntmps18
  go_wp2_with fail
  refine KB.out.mono ?_
  rintro e w1 ⟨A', rfl, hb, hB⟩
  have b0 := (hb.cell (p := ⟨w.heap.size + 1, 0, none⟩) (by simp)).trans (cell_second w _ _ _ _ 0)
  have b1 := (hb.cell (p := ⟨w.heap.size + 1, 1, none⟩) (by simp)).trans (cell_second w _ _ _ _ 1)
  have b2 := (hb.cell (p := ⟨w.heap.size + 1, 2, none⟩) (by simp)).trans (cell_second w _ _ _ _ 2)
  simp only [List.getElem?_toArray, List.getElem?_cons_zero, List.getElem?_cons_succ] at b0 b1 b2
  have HW1 := Lib.hid (HW.out.trans (hb.mono HW.out.size))
  have hlt : w.heap.size + 1 < w1.heap.size := Nat.lt_of_lt_of_le (by simp) hb.size
  clear hb hB
  go_wp2_with fail
  refine (hmay.out _).mono ?_
  rintro e w2 ⟨rfl, hb⟩
  have c0 := (hb.cell (p := ⟨w.heap.size + 1, 0, none⟩) hlt).trans b0
  have HW2 := Lib.hid (HW1.out.trans (hb.mono HW1.out.size))
  clear hb
  go_wp2_with fail
  go_ret
  exact ⟨rfl, HW2.out⟩
 subst hk
 obtain ⟨j, hnj, hj, hbj, hs⟩ := hx.ref rfl
 simp only at hnj hs
 subst hs
 have HJ := Lib.hid (show j < len by rw [<- hL]; exact hj)
 have HBJ := Lib.hid hbj
 have HN := Lib.hid hnj
 clear hA hw0 hx hj hbj hnj
 go_enter Tryz.func18, Tryz.ntmps18
 go_wp2_with fail
 refine KB.out.mono ?_
 rintro e w1 ⟨A', rfl, hb, hB⟩
 have b0 := (hb.cell (p := ⟨w.heap.size + 1, 0, none⟩) (by simp)).trans (cell_second w _ _ _ _ 0)
 have b1 := (hb.cell (p := ⟨w.heap.size + 1, 1, none⟩) (by simp)).trans (cell_second w _ _ _ _ 1)
 have b2 := (hb.cell (p := ⟨w.heap.size + 1, 2, none⟩) (by simp)).trans (cell_second w _ _ _ _ 2)
 simp only [List.getElem?_toArray, List.getElem?_cons_zero, List.getElem?_cons_succ] at b0 b1 b2
 have HW1 := Lib.hid (HW.out.trans (hb.mono HW.out.size))
 have hlt : w.heap.size + 1 < w1.heap.size := Nat.lt_of_lt_of_le (by simp) hb.size
 have KR := Lib.hid (fun (w2 : World) (hb2 : Below w1.heap.size w1 w2) => refersTo_any (hB.below hb2) j HJ.out HBJ.out n HN.out)
 clear hb hB
 go_wp2_with fail
 refine (hmay.out _).mono ?_
 rintro e w2 ⟨rfl, hb⟩
 have c0 := (hb.cell (p := ⟨w.heap.size + 1, 0, none⟩) hlt).trans b0
 have c1 := (hb.cell (p := ⟨w.heap.size + 1, 1, none⟩) hlt).trans b1
 have HW2 := Lib.hid (HW1.out.trans (hb.mono HW1.out.size))
 have HB2 := Lib.hid hb
 clear hb
 go_wp2_with fail
 refine (KR.out _ HB2.out).mono ?_
 rintro e w3 ⟨rfl, rfl⟩
 go_wp2_with fail
 go_ret
 exact ⟨rfl, HW2.out⟩
structure HpAt (w : World) (A : Option Addr) (len cap : Nat) (h : Hp) : Prop where
 wds : WdsAt w A len cap (flat h)
 ok : HOk h
 small : len <= 60000
theorem HpAt.below {w w' : World} {A : Option Addr} {len cap : Nat} {h : Hp} (x : HpAt w A len cap h) (hb : Below w.heap.size w w') : HpAt w' A len cap h := ⟨x.wds.below hb, x.ok, x.small⟩
theorem begB_cases (h : Hp) {j : Nat} (hj : j < (flat h).length) (hb : begB j = true) : j = 0 \/ ∃ i, i < h.length /\ j = 2 + 3 * i := by
 rw [flat_len] at hj
 unfold begB at hb
 by_cases h0 : j = 0
 ·
  exact Or.inl h0
 rw [show (j == 0) = false by simpa using h0] at hb
 simp at hb
 exact Or.inr ⟨(j - 2) / 3, by omega, by omega⟩
set_option maxHeartbeats 4000000 in
theorem heapMay_any {w : World} {A : Option Addr} {len cap : Nat} {h : Hp} (hA : HpAt w A len cap h) :
  Calls Tryz.prog 39 #[.agg #[.slice A len cap, .int .i64 60000]] w fun e w' => e = .returned (.bool true) /\ Below w.heap.size w w' := by
 obtain ⟨hA, hok, hsm⟩ := hA
 have hL := hA.size
 have hcap := hA.cap_
 have hcap2 : cap <= 9223372036854775807 := by unfold maxLen at hcap; omega
 have hle := hA.le
 obtain ⟨wb, hwb⟩ : ∃ wb, w.alloc (.cells #[.slice A len cap, .int .i64 60000] 44) = wb := ⟨_, rfl⟩
 have hb : Below w.heap.size w wb := by rw [<- hwb]; exact (Below.refl _ _).alloc (Nat.le_refl _) _
 have z0 : wb.cell? ⟨w.heap.size, 0, none⟩ = some (.slice A len cap) := by rw [<- hwb]; exact za _ _ _ 0
 have z1 : wb.cell? ⟨w.heap.size, 1, none⟩ = some (.int .i64 60000) := by rw [<- hwb]; exact za _ _ _ 1
 have hlt : w.heap.size < wb.heap.size := by rw [<- hwb]; simp
 have HI := Lib.hid (fun w => in_any 60000 50 60000 w)
 have HIB := Lib.hid (inB_yes (a := 60000) (b := 50) (c := 60000) ⟨by decide, by decide⟩)
 have HWB := Lib.hid hwb
 have HB := Lib.hid hb
 have HA := Lib.hid (hA.below hb)
 have HOK := Lib.hid hok
 have hsm2 : ¬ (60000 : Int) < (len : Int) := by omega
 clear hA hok hwb hb hcap
 go_enter Tryz.func39, Tryz.ntmps39
 go_upto_region 1 with fail
 rw [HWB.out]
 go_wp2_with fail
 refine (HI.out _).mono ?_
 rintro e w1 ⟨rfl, rfl⟩
 rw [HIB.out]
 go_wp2_with fail
 refine (beginsOf_any HA.out (by omega)).mono ?_
 rintro e w1 ⟨A', rfl, hb1, hB1⟩
 have HB1 := Lib.hid hb1
 have HG1 := Lib.hid hB1
 have y0 := (hb1.cell (p := ⟨w.heap.size, 0, none⟩) hlt).trans z0
 have hlt1 : w.heap.size < w1.heap.size := Nat.lt_of_lt_of_le hlt hb1.size
 have HA1 := Lib.hid (HA.out.below hb1)
 clear hb1 hB1 z0 z1
 go_wp2_with fail
 go_loopg [5] len (fun g i wr => ∃ a : Nat, g = len - a /\ a <= len /\ i = .int .i64 a /\ Below w1.heap.size w1 wr)
 case atStart => exact ⟨0, by omega, by omega, rfl, Below.refl _ _⟩
 obtain ⟨a, hg, hal, rfl, hbr⟩ := hrel
 have HG := Lib.hid hg
 have HBR := Lib.hid hbr
 have x0 := (hbr.cell (p := ⟨w.heap.size, 0, none⟩) hlt1).trans y0
 have hltr : w.heap.size < wr.heap.size := Nat.lt_of_lt_of_le hlt1 hbr.size
 clear hg hbr
 have hla : (a : Int) < (len : Int) \/ a = len := by omega
 rcases hla with hla | rfl
 ·
  obtain ⟨b, o, hAb, hbw, hbc⟩ := HG1.out.at_ (by omega)
  subst hAb
  have v0 := (HBR.out.cell (p := ⟨b, o + a, none⟩) hbw).trans (hbc a (by omega))
  have ha0 : (0 : Int) <= (a : Int) := by omega
  clear hbc
  cases hbeg : begB a
  ·
   rw [hbeg] at v0
   go_wp2_with fail
   go_roundg (len - (a + 1))
   case rel => exact ⟨a + 1, rfl, by omega, by go_num, HBR.out⟩
   case measure => have := HG.out; omega
  rw [hbeg] at v0
  have hst : ∃ (n f : Nat) (yk yn : Int) (ys : ByteArray), f <= n /\ a + n <= len /\ yk ≠ 10 /\ (flat h)[a]? = some ⟨yk, yn, ys⟩ /\ (∀ i, f <= i -> i < n -> ∃ x, (flat h)[a + i]? = some x /\ WIn h x) /\ ∀ W : World, Below w1.heap.size w1 W -> Calls Tryz.prog 74 #[.slice A len cap, .int .i64 a] W fun e w' => e = .returned (.tuple #[.int .i64 n, .int .i64 f]) /\ Below W.heap.size W w' := by
   rcases begB_cases h (by omega) hbeg with rfl | ⟨i, hi, rfl⟩
   ·
    have h2 := flat_len h
    exact ⟨2, 2, _, _, _, Nat.le_refl _, by omega, by decide, flat_0 h, fun i h1 h2 => by omega, fun W hW => thing_0 (HA1.out.below hW)⟩
   ·
    have h2 := flat_len h
    obtain ⟨q0, q1, q2⟩ := flat_at h i hi
    have hp := HOK.out h[i] (List.getElem_mem hi)
    refine ⟨3, 1, _, _, _, by decide, by omega, by decide, q0, fun j h1 h2 => ?_, fun W hW => thing_pair (HA1.out.below hW) i hi _ (by unfold pAt; omega)⟩
    obtain rfl | rfl : j = 1 \/ j = 2 := by omega
    ·
     exact ⟨_, q1, hp.1⟩
    exact ⟨_, q2, hp.2⟩
  obtain ⟨n, f, yk, yn, ys, hfn, han, hyk, hy, hin, hT⟩ := hst
  have HT := Lib.hid hT
  have HIN := Lib.hid hin
  obtain ⟨b2, o2, hA2, hb2w, _, c0, c1, c2⟩ := (HA1.out.below HBR.out).nth hy
  simp only at c0 c1 c2
  subst hA2
  have hac : (a : Int) < (cap : Int) := by omega
  clear hT hin hy
  go_wp2_with fail
  have hwa : Below wr.heap.size wr (wr.alloc (.cells #[.int .i64 yk, .int .i64 yn, .string ys] 49)) := (Below.refl _ _).alloc (Nat.le_refl _) _
  refine (HT.out _ (HBR.out.trans (hwa.mono HBR.out.size))).mono ?_
  rintro e w2 ⟨rfl, hb2⟩
  have HB2 := Lib.hid (HBR.out.trans ((hwa.trans (hb2.mono hwa.size)).mono HBR.out.size))
  clear hb2 hwa
  go_wp2_with fail
  go_loopg [10] (n - f) (fun g i wi => ∃ j : Nat, g = n - j /\ f <= j /\ j <= n /\ i = .int .i64 j /\ Below w1.heap.size w1 wi)
  case atStart => exact ⟨f, by omega, Nat.le_refl _, by omega, rfl, HB2.out⟩
  obtain ⟨j, hgj, hfj, hjn, rfl, hbj⟩ := hrel
  have HGJ := Lib.hid hgj
  have HBJ := Lib.hid hbj
  have x0 := (hbj.cell (p := ⟨w.heap.size, 0, none⟩) hlt1).trans y0
  have hltj : w.heap.size < wr.heap.size := Nat.lt_of_lt_of_le hlt1 hbj.size
  clear hgj hbj
  have hjn2 : (j : Int) < (n : Int) \/ j = n := by omega
  rcases hjn2 with hjn2 | rfl
  ·
   obtain ⟨⟨xk, xn, xs⟩, hx, hxin⟩ := HIN.out j hfj (by omega)
   obtain ⟨b3, o3, hA3, hb3w, _, d0, d1, d2⟩ := (HA1.out.below HBJ.out).nth hx
   obtain ⟨rfl, rfl⟩ : b2 = b3 /\ o2 = o3 := by simpa using hA3
   simp only at d0 d1 d2
   obtain ⟨m, hm⟩ : ∃ m : Nat, a + j = m := ⟨_, rfl⟩
   rw [hm] at d0 d1 d2
   have hm2 : (a : Int) + (j : Int) = (m : Int) := by omega
   have hmc : (m : Int) < (cap : Int) := by omega
   have hml : (m : Int) < (len : Int) := by omega
   have hm0 : (0 : Int) <= (m : Int) := by omega
   have KM := Lib.hid (fun W => wordMay_any ⟨xk, xn, xs⟩ (VOk.may (Or.inl hxin)) W)
   have HX := Lib.hid hxin
   have hk5 : xk ≠ 5 \/ ∃ j5 : Nat, xk = 5 /\ xn = j5 /\ j5 < len /\ begB j5 = true := by
    by_cases h5 : xk = 5
    ·
     obtain ⟨j5, q1, q2, q3, q4⟩ := VOk.ref (Or.inl hxin : VOk h ⟨xk, xn, xs⟩) h5
     exact Or.inr ⟨j5, h5, q1, by omega, q3⟩
    exact Or.inl h5
   clear hx hxin hA3
   rcases hk5 with hk5 | ⟨j5, rfl, rfl, hj5, hb5⟩
   ·
    go_wp2_with fail
    have hwa : Below wr.heap.size wr (wr.alloc (.cells #[.int .i64 xk, .int .i64 xn, .string xs] 49)) := (Below.refl _ _).alloc (Nat.le_refl _) _
    refine (KM.out _).mono ?_
    rintro e w3 ⟨rfl, hb3⟩
    have e0 := (hb3.cell (p := ⟨wr.heap.size, 0, none⟩) (by simp)).trans (za wr _ _ 0)
    simp only [List.getElem?_toArray, List.getElem?_cons_zero] at e0
    have HB3 := Lib.hid (HBJ.out.trans ((hwa.trans (hb3.mono hwa.size)).mono HBJ.out.size))
    clear hb3 hwa
    go_wp2_with fail
    go_roundg (n - (j + 1))
    case rel => exact ⟨j + 1, rfl, by omega, by omega, by go_num, HB3.out⟩
    case measure => have := HGJ.out; omega
   have KR := Lib.hid (fun (W : World) (hW : Below w1.heap.size w1 W) => refersTo_any (HG1.out.below hW) j5 hj5 hb5 j5 rfl)
   clear hb5
   go_wp2_with fail
   have hwa : Below wr.heap.size wr (wr.alloc (.cells #[.int .i64 5, .int .i64 j5, .string xs] 49)) := (Below.refl _ _).alloc (Nat.le_refl _) _
   refine (KM.out _).mono ?_
   rintro e w3 ⟨rfl, hb3⟩
   have e0 := (hb3.cell (p := ⟨wr.heap.size, 0, none⟩) (by simp)).trans (za wr _ _ 0)
   have e1 := (hb3.cell (p := ⟨wr.heap.size, 1, none⟩) (by simp)).trans (za wr _ _ 1)
   simp only [List.getElem?_toArray, List.getElem?_cons_zero, List.getElem?_cons_succ] at e0 e1
   have HB3 := Lib.hid (HBJ.out.trans ((hwa.trans (hb3.mono hwa.size)).mono HBJ.out.size))
   clear hb3 hwa
   go_wp2_with fail
   refine (KR.out _ HB3.out).mono ?_
   rintro e w4 ⟨rfl, rfl⟩
   go_wp2_with fail
   go_roundg (n - (j + 1))
   case rel => exact ⟨j + 1, rfl, by omega, by omega, by go_num, HB3.out⟩
   case measure => have := HGJ.out; omega
  go_wp2_with fail
  go_roundg (len - (a + 1))
  case rel => exact ⟨a + 1, rfl, by omega, by go_num, HBJ.out⟩
  case measure => have := HG.out; omega
 go_wp2_with fail
 go_ret
 exact ⟨rfl, HB.out.trans ((HB1.out.trans (HBR.out.mono HB1.out.size)).mono HB.out.size)⟩
/- Contract of the reference's wordsCopy: rows of words, one behind the other, in new memory. -/
theorem infoWord : (Tryz.prog.info? 49).map (fun i => (i.zero, i.size, i.bytes)) = some (some (.agg #[.int .i64 0, .int .i64 0, .string ByteArray.empty]), 3, 32) := by kernel_rfl
theorem wpList_wd {base : Nat} {ops : Array Oper} {rest : List Oper} {o : Oper} {act : Act} {Q : Exit -> Act -> World -> Prop} {w : World} (hgd : o.guard = none) (s y : Operand)
  (ho : o.op = .call { callee := .builtin .append, args := #[s, y], argTypes := #[42, 42] })
  {v : Value} {X : List Wd} (hO : OwnAt kitWd 49 base w v X) (x : Wd) (cs : Array Value) (hcs : cs.toList = x.cells)
  (hs : act.eval s = v) (hy : act.eval y = .slice (some ⟨w.heap.size, 0, none⟩) 1 1) (hb : X.length + 1 <= 1099511627777) (hbase : base <= w.heap.size)
  (h : ∀ v' w', OwnAt kitWd 49 base w' v' (X ++ [x]) -> w.grownBy w' v.ownBlock -> (v'.ownBlock = v.ownBlock \/ ∃ b, v'.ownBlock = some b /\ w.heap.size <= b) -> wpList Tryz.prog ops Q rest (act.put o.dst v') w') : wpList Tryz.prog ops Q (o :: rest) act (w.alloc (.cells cs 49)) := by
 obtain ⟨i0, hi, hz0, hz1, hz2⟩ := info_parts infoWord
 exact wpList_own hgd s y ho Tryz.underlying42 hi hz0 hz1 hz2 rfl (by decide) hO x cs hcs trivial (fun b hb => hb.elim) (fun b hb => hb.elim) hs hy (by unfold maxLen; omega) hbase h
theorem OwnAt.grow {w w' : World} {ty : TypeId} {base : Nat} {v : Value} {X : List Wd} {row : Option Nat} (h : OwnAt kitWd ty base w v X) (hg : w.grownBy w' row) (hv : v.ownBlock = none \/ v.ownBlock ≠ row) : OwnAt kitWd ty base w' v X :=
 h.grown hg hv (fun x hx b hb => hb.elim)
theorem OwnAt.base_le {w : World} {ty : TypeId} {base : Nat} {v : Value} {X : List Wd} (h : OwnAt kitWd ty base w v X) {b : Nat} (hb : v.ownBlock = some b) : base <= b := (h.row.lt b hb).1
structure WRows (w : World) (A : Option Addr) (len : Nat) (R : List (List Wd)) : Prop where
 size : R.length = len
 at_ : 0 < len -> ∃ b o, A = some ⟨b, o, none⟩ /\ b < w.heap.size /\ ∀ i, (h : i < R.length) -> ∃ A' m c', R[i].length = m /\ w.cell? ⟨b, o + i, none⟩ = some (.slice A' m c') /\ WdsAt w A' m c' R[i]
theorem WRows.below {w w' : World} {A : Option Addr} {len : Nat} {R : List (List Wd)} (h : WRows w A len R) (hb : Below w.heap.size w w') : WRows w' A len R :=
 ⟨h.size, fun h0 => by
  obtain ⟨b, o, hA, hl, hc⟩ := h.at_ h0
  refine ⟨b, o, hA, Nat.lt_of_lt_of_le hl hb.size, fun i hi => ?_⟩
  obtain ⟨A', m, c', h1, h2, h3⟩ := hc i hi
  exact ⟨A', m, c', h1, (hb.cell (p := ⟨b, o + i, none⟩) hl).trans h2, h3.below hb⟩⟩
set_option maxHeartbeats 2000000 in
theorem wordsCopy_any (A : Option Addr) (len cap : Nat) (R : List (List Wd)) (w : World) (hcap : cap <= maxLen) (hl : len <= cap) (hR : WRows w A len R) (hsz : R.flatten.length <= 1099511627776) :
  Calls Tryz.prog 48 #[.slice A len cap] w fun e w' => ∃ v, e = .returned v /\ OwnAt kitWd 49 w.heap.size w' v R.flatten /\ Below w.heap.size w w' := by
 have hlen : len <= 9223372036854775807 := by unfold maxLen at hcap; omega
 have hcap2 : cap <= 9223372036854775807 := by unfold maxLen at hcap; omega
 have HR := Lib.hid hR
 clear hR
 go_enter Tryz.func48, Tryz.ntmps48
 go_wp2_with fail
 go_loopg [3, 4] len (fun g v i wr => ∃ k : Nat, g = len - k /\ k <= len /\ i = .int .i64 k /\ OwnAt kitWd 49 w.heap.size wr v (R.take k).flatten /\ Below w.heap.size w wr)
 case atStart => exact ⟨0, by omega, by omega, rfl, OwnAt.start _ _ _ _, Below.refl _ _⟩
 obtain ⟨k, hg, hk, rfl, hown, hb⟩ := hrel
 have HG := Lib.hid hg
 have HO := Lib.hid hown
 have HB := Lib.hid hb
 clear hg hown hb
 by_cases hlt : k < len
 ·
  obtain ⟨b, o, rfl, hbw, hrow⟩ := HR.out.at_ (by omega)
  have hks : k < R.length := by rw [HR.out.size]; exact hlt
  obtain ⟨A', m, c', hm, hc, hst⟩ := hrow k hks
  have HST := Lib.hid hst
  have hmc : m <= c' := hst.le
  have hcc := hst.cap_
  have hmx : c' <= 9223372036854775807 := by unfold maxLen at hcc; omega
  have HRK := Lib.hid (show (R.take (k + 1)).flatten = (R.take k).flatten ++ R[k] from by
   rw [List.take_succ_eq_append_getElem hks, List.flatten_append]; simp)
  have HSZ := Lib.hid (show (R.take k).flatten.length + R[k].length <= 1099511627776 from by
   have h1 : R.flatten = (R.take (k + 1)).flatten ++ (R.drop (k + 1)).flatten := by rw [<- List.flatten_append, List.take_append_drop]
   have h2 := congrArg List.length h1
   rw [HRK.out, List.length_append, List.length_append] at h2
   omega)
  have HM := Lib.hid hm
  clear hst hrow hm hcc
  go_wp2_with fail
  obtain ⟨wo, rfl⟩ : ∃ wo : World, wo = wr := ⟨_, rfl⟩
  go_loopw [3, 5] (fun v i wi => ∃ j : Nat, j <= m /\ i = .int .i64 j /\ OwnAt kitWd 49 w.heap.size wi v ((R.take k).flatten ++ R[k].take j) /\ Below w.heap.size w wi) (fun _ i _ => m - (intOf i).toNat)
  case atStart => exact ⟨0, by omega, rfl, by simpa using HO.out, HB.out⟩
  obtain ⟨j, hj, rfl, hown, hb⟩ := hrel
  have HO2 := Lib.hid hown
  have HB2 := Lib.hid hb
  have hc1 : wr.cell? ⟨b, o + k, none⟩ = some (.slice A' m c') := (hb.cell (p := ⟨b, o + k, none⟩) hbw).trans hc
  have hsz2 := hb.size
  clear hown hb
  by_cases hjm : j < m
  ·
   have hjr : j < R[k].length := by rw [HM.out]; exact hjm
   obtain ⟨⟨xk, xn, xs⟩, hx⟩ : ∃ x, x = R[k][j] := ⟨_, rfl⟩
   obtain ⟨b2, o2, rfl, hb2w, _, d0, d1, d2⟩ := (HST.out.below HB2.out).nth (i := j) (x := ⟨xk, xn, xs⟩) (by rw [hx]; exact List.getElem?_eq_getElem hjr)
   simp only at d0 d1 d2
   have HX := Lib.hid hx
   have HJ := Lib.hid (show ((R.take k).flatten ++ R[k].take j).length + 1 <= 1099511627777 from by
    have := HSZ.out
    rw [List.length_append, List.length_take]
    omega)
   clear hx
   go_wp2_with (at_builtin; refine wpList_wd rfl (.tmp 21) (.tmp 29) rfl HO2.out ⟨xk, xn, xs⟩ _ rfl rfl rfl HJ.out hsz2 ?_; intro v' w1 hown' hg' _)
   have hb1 : Below w.heap.size w w1 := HB2.out.grown hg' HB2.out.size (fun b hb => HO2.out.base_le hb)
   go_roundw
   case measure => simp only [intOf, Int.toNat_natCast]; omega
   refine ⟨j + 1, by omega, by go_num, ?_, hb1⟩
   have e1 : (R.take k).flatten ++ R[k].take (j + 1) = ((R.take k).flatten ++ R[k].take j) ++ [R[k][j]] := by
    rw [List.append_assoc, List.take_succ_eq_append_getElem hjr]
   rw [e1, <- HX.out]
   exact hown'
  obtain rfl : j = m := by omega
  go_wp2_with fail
  go_roundg (len - (k + 1))
  case measure => have := HG.out; omega
  refine ⟨k + 1, rfl, hlt, by go_num, ?_, HB2.out⟩
  have h2 := HO2.out
  rw [<- HM.out, List.take_length] at h2
  rw [HRK.out]
  exact h2
 obtain rfl : k = len := by omega
 go_wp2_with fail
 go_ret
 refine ⟨_, rfl, ?_, HB.out⟩
 have h2 := HO.out
 rwa [List.take_of_length_le (by rw [HR.out.size]; exact Nat.le_refl _)] at h2
end Go.Proofs.YtfhbdlobhjegcaaGreatDoor
