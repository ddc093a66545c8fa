import Derived.Test.YtfhbdlobhjegcaaGreatDoorGQab
import Derived.Test.YtfhbdlobhjegcaaGreatDoorGPlain
import Derived.Test.YtfhbdlobhjegcaaGreatDoorGBase
import Derived.BigQuiet
import Derived.Deep.QuietTactic
namespace Go.Proofs.YtfhbdlobhjegcaaGreatDoor
open Go.RowKit Go.ChangeShapes Go.WideShapes Go.Deep Go.ChangeAt
set_option linter.unusedVariables false
set_option maxRecDepth 20000
def IV.cells (x : IV) : List Value := [.int .i64 x.op, .int .i64 x.a, .int .i64 0, .string x.s, .string ⟨#[]⟩, .int .i64 x.w.k, .int .i64 x.w.n, .string x.w.s]
def IV.agg (x : IV) : Value := .agg #[.int .i64 x.op, .int .i64 x.a, .int .i64 0, .string x.s, .string ⟨#[]⟩, .int .i64 x.w.k, .int .i64 x.w.n, .string x.w.s]
def arS (s : ByteArray) (n : Nat) : Prop := primN s.toList = n /\ 1 <= n
def MaySays (w : World) (f0 f1 f2 f3 f4 : Value) (o : Nat) (A : Option Addr) (n c : Nat) (x : IV) (t l : Nat) : Prop :=
 Calls Tryz.prog 77 #[.agg #[f0, f1, f2, f3, f4], .agg #[.int .i64 o, .int .i64 o, .int .i64 0, .slice A n c], x.agg] w fun e w' => e = .returned (.tuple #[.int .i64 t, .int .i64 l, .bool true]) /\ Below w.heap.size w w'
section
variable {f0 f1 f2 f3 f4 : Value}
theorem boxes3 (w : World) (c1 c2 c3 : Array Value) (t1 t2 t3 : TypeId) : Below w.heap.size w (((w.alloc (.cells c1 t1)).alloc (.cells c2 t2)).alloc (.cells c3 t3)) :=
 (((Below.refl w.heap.size w).alloc (Nat.le_refl _) _).alloc (by simp) _).alloc (by simp; omega) _
set_option maxHeartbeats 1000000 in
theorem may_tick (w : World) (o : Nat) (A : Option Addr) (n c : Nat) : MaySays w f0 f1 f2 f3 f4 o A n c tickI 0 0 := by
 unfold MaySays IV.agg
 simp only [tickI, noW]
 go_enter Tryz.func77, Tryz.ntmps77
 go_wp2_with fail
 go_ret3
 exact ⟨rfl, boxes3 _ _ _ _ _ _ _⟩
set_option maxHeartbeats 1000000 in
theorem may_ret (w : World) (o : Nat) (A : Option Addr) (n c : Nat) : MaySays w f0 f1 f2 f3 f4 o A n c retI 1 0 := by
 unfold MaySays IV.agg
 simp only [retI, noW]
 go_enter Tryz.func77, Tryz.ntmps77
 go_wp2_with fail
 go_ret3
 exact ⟨rfl, boxes3 _ _ _ _ _ _ _⟩
set_option maxHeartbeats 1000000 in
theorem may_jump (w : World) (o : Nat) (A : Option Addr) (n c : Nat) (m : Nat) (hm : m < n) (hn : n <= 6000) : MaySays w f0 f1 f2 f3 f4 o A n c (jumpI m) 0 0 := by
 unfold MaySays IV.agg
 simp only [jumpI, noW]
 obtain ⟨z, hz⟩ : ∃ z : Int, (n : Int) - 1 = z := ⟨_, rfl⟩
 obtain ⟨y, hy⟩ : ∃ y : Int, (m : Int) = y := ⟨_, rfl⟩
 rw [hy]
 have HI := Lib.hid (fun W => in_any y 0 z W)
 have HB := Lib.hid (inB_yes (a := y) (b := 0) (c := z) ⟨by omega, by omega⟩)
 have HZ := Lib.hid hz
 have hn2 : n <= 9223372036854775807 := by omega
 clear hz hy
 go_enter Tryz.func77, Tryz.ntmps77
 go_wp2_with fail
 rw [HZ.out]
 refine (HI.out _).mono ?_
 rintro e w1 ⟨rfl, rfl⟩
 rw [HB.out]
 go_wp2_with fail
 go_ret3
 exact ⟨rfl, boxes3 _ _ _ _ _ _ _⟩
set_option maxHeartbeats 1000000 in
theorem may_else (w : World) (o : Nat) (A : Option Addr) (n c : Nat) (m : Nat) (hm : m < n) (hn : n <= 6000) : MaySays w f0 f1 f2 f3 f4 o A n c (elseI m) 1 0 := by
 unfold MaySays IV.agg
 simp only [elseI, noW]
 obtain ⟨z, hz⟩ : ∃ z : Int, (n : Int) - 1 = z := ⟨_, rfl⟩
 obtain ⟨y, hy⟩ : ∃ y : Int, (m : Int) = y := ⟨_, rfl⟩
 rw [hy]
 have HI := Lib.hid (fun W => in_any y 0 z W)
 have HB := Lib.hid (inB_yes (a := y) (b := 0) (c := z) ⟨by omega, by omega⟩)
 have HZ := Lib.hid hz
 have hn2 : n <= 9223372036854775807 := by omega
 clear hz hy
 go_enter Tryz.func77, Tryz.ntmps77
 go_wp2_with fail
 rw [HZ.out]
 refine (HI.out _).mono ?_
 rintro e w1 ⟨rfl, rfl⟩
 rw [HB.out]
 go_wp2_with fail
 go_ret3
 exact ⟨rfl, boxes3 _ _ _ _ _ _ _⟩
set_option maxHeartbeats 1000000 in
theorem may_local (w : World) (o : Nat) (A : Option Addr) (n c : Nat) (i : Nat) (hi : i < o) (ho : o <= 6) : MaySays w f0 f1 f2 f3 f4 o A n c (localI i) 0 1 := by
 unfold MaySays IV.agg
 simp only [localI, noW]
 obtain ⟨z, hz⟩ : ∃ z : Int, (o : Int) - 1 = z := ⟨_, rfl⟩
 obtain ⟨y, hy⟩ : ∃ y : Int, (i : Int) = y := ⟨_, rfl⟩
 obtain ⟨x, hx⟩ : ∃ x : Int, (o : Int) = x := ⟨_, rfl⟩
 rw [hy]
 have HI := Lib.hid (fun W => in_any y 0 z W)
 have HB := Lib.hid (inB_yes (a := y) (b := 0) (c := z) ⟨by omega, by omega⟩)
 rw [hx] at hz ⊢
 have HZ := Lib.hid hz
 have hx2 : x <= 6 := by omega
 have hx3 : 0 <= x := by omega
 clear hz hy hx
 go_enter Tryz.func77, Tryz.ntmps77
 go_wp2_with fail
 rw [HZ.out]
 refine (HI.out _).mono ?_
 rintro e w1 ⟨rfl, rfl⟩
 rw [HB.out]
 go_wp2_with fail
 go_ret3
 exact ⟨rfl, boxes3 _ _ _ _ _ _ _⟩
set_option maxHeartbeats 1000000 in
theorem may_const (w : World) (o : Nat) (A : Option Addr) (n c : Nat) (x : Wd) (hx : WOk x) : MaySays w f0 f1 f2 f3 f4 o A n c (constI x) 0 1 := by
 obtain ⟨k, m, s⟩ := x
 unfold MaySays IV.agg
 simp only [constI]
 have KM := Lib.hid (fun W => wordMay_any ⟨k, m, s⟩ (Or.inl hx) W)
 have hk5 : (k != 5) = true := by have h := hx.not5; simpa using h
 clear hx
 go_enter Tryz.func77, Tryz.ntmps77
 go_wp2_with fail
 have HW := Lib.hid (boxes3 w #[f0, f1, f2, f3, f4] #[.int .i64 o, .int .i64 o, .int .i64 0, .slice A n c] #[.int .i64 2, .int .i64 0, .int .i64 0, .string ⟨#[]⟩, .string ⟨#[]⟩, .int .i64 k, .int .i64 m, .string s] 46 32 51)
 refine (KM.out _).mono ?_
 rintro e w1 ⟨rfl, hb⟩
 have HB := Lib.hid (HW.out.trans (hb.mono HW.out.size))
 clear hb
 go_wp2_with fail
 go_ret3
 exact ⟨rfl, HB.out⟩
set_option maxHeartbeats 1000000 in
theorem may_prim (w : World) (o : Nat) (A : Option Addr) (n c : Nat) (s : ByteArray) (m : Nat) (hm : arS s m) : MaySays w f0 f1 f2 f3 f4 o A n c (primI s m) m 1 := by
 unfold MaySays IV.agg
 simp only [primI, noW]
 obtain ⟨h1, h2⟩ := hm
 obtain ⟨y, hy⟩ : ∃ y : Int, (m : Int) = y := ⟨_, rfl⟩
 rw [hy]
 rw [hy] at h1
 have KP := Lib.hid (fun (W : World) => show Calls Tryz.prog 33 #[.string s] W (fun e w' => e = .returned (.int .i64 y) /\ W = w') from by have h := primArgs_any s W; rw [h1] at h; exact h)
 have hy0 : 0 < y := by omega
 clear h1 hy h2
 go_enter Tryz.func77, Tryz.ntmps77
 go_wp2_with fail
 go_quiet (first | (go_at_call 33; exact (KP.out _).mono (fun e w5 h => ⟨h.1, _, h.2.symm⟩)))
 go_wp2_with fail
 go_ret3
 exact ⟨rfl, below_drewN (boxes3 _ _ _ _ _ _ _) _⟩
end
/- The primitives of an expression's code. -/
theorem arS_of {s : ByteArray} {n : Nat} (h : arP s = n) (h1 : 1 <= n) : arS s n := by
 unfold arP at h
 split at h
 ·
  rename_i hm
  subst h
  rcases hm with rfl | rfl | rfl | rfl | rfl | rfl | rfl | rfl | rfl <;> exact ⟨by rw [ByteArray.toList_eq]; decide, by decide⟩
 split at h
 ·
  rename_i hm
  subst h
  rcases hm with rfl | rfl | rfl | rfl | rfl | rfl <;> exact ⟨by rw [ByteArray.toList_eq]; decide, by decide⟩
 omega
theorem not_prim {s : ByteArray} {m : Nat} {i : IV} (k : Int) (h : primI s m = i) (hk : i.op = k) (hi : k ≠ 18) : False := hi (by rw [<- hk, <- h]; rfl)
theorem tail_prims {s : ByteArray} {m : Nat} {t : Bool} (h : primI s m ∈ tailI t) : False := by
 unfold tailI at h
 cases t with
 | true => exact not_prim 14 (by simpa using h) rfl (by decide)
 | false => simp at h
theorem prim_inj {s s' : ByteArray} {m m' : Nat} (h : primI s m = primI s' m') : s = s' /\ m = m' := by
 unfold primI at h
 simp only [IV.mk.injEq] at h
 exact ⟨h.2.2.1, by omega⟩
mutual
theorem codeD_prims : (d : Dt) -> ∀ s m, primI s m ∈ codeD d -> arS s m
 | .mk k n' s' l, s, m, h => by
  rw [codeD] at h
  split at h
  ·
   rcases List.mem_append.1 h with h | h
   ·
    exact codeDs_prims l s m h
   rcases List.mem_cons.1 h with h | h
   ·
    exact (not_prim 2 h rfl (by decide)).elim
   obtain ⟨rfl, rfl⟩ := prim_inj (List.mem_replicate.1 h).2
   exact arS_of rfl (by decide)
  exact (not_prim 2 (by simpa using h) rfl (by decide)).elim
theorem codeDs_prims : (l : List Dt) -> ∀ s m, primI s m ∈ codeDs l -> arS s m
 | [], s, m, h => by simp [codeDs] at h
 | d :: l, s, m, h => by
  rw [codeDs] at h
  rcases List.mem_append.1 h with h | h
  ·
   exact codeD_prims d s m h
  exact codeDs_prims l s m h
end
mutual
theorem prims_of {o : Nat} : (x : Px) -> PxW o x -> (t : Bool) -> (n : Nat) -> ∀ s m, primI s m ∈ codeX x t n -> arS s m
 | .const d, .const _ hd, t, n, s, m, h => by
  rw [codeX] at h
  rcases List.mem_cons.1 h with h | h
  ·
   exact (not_prim 1 h rfl (by decide)).elim
  rcases List.mem_append.1 h with h | h
  ·
   exact codeD_prims d s m h
  exact (tail_prims h).elim
 | .was i, .was _ hi, t, n, s, m, h => by
  rw [codeX] at h
  rcases List.mem_cons.1 h with h | h
  ·
   exact (not_prim 1 h rfl (by decide)).elim
  rcases List.mem_cons.1 h with h | h
  ·
   exact (not_prim 3 h rfl (by decide)).elim
  exact (tail_prims h).elim
 | .prim s' l, .prim _ _ h0 h1 hl, t, n, s, m, h => by
  rw [codeX] at h
  rcases List.mem_cons.1 h with h | h
  ·
   exact (not_prim 1 h rfl (by decide)).elim
  rcases List.mem_append.1 h with h | h
  ·
   exact primsL_of l hl (n + 1) s m h
  rcases List.mem_cons.1 h with h | h
  ·
   obtain ⟨rfl, rfl⟩ := prim_inj h
   exact arS_of h1 h0
  exact (tail_prims h).elim
 | .ite a b c, .ite _ _ _ ha hb hc, t, n, s, m, h => by
  rw [codeX] at h
  rcases List.mem_cons.1 h with h | h
  ·
   exact (not_prim 1 h rfl (by decide)).elim
  rcases List.mem_append.1 h with h | h
  ·
   exact prims_of a ha _ _ s m h
  rcases List.mem_cons.1 h with h | h
  ·
   exact (not_prim 16 h rfl (by decide)).elim
  rcases List.mem_append.1 h with h | h
  ·
   rcases List.mem_append.1 h with h | h
   ·
    exact prims_of b hb _ _ s m h
   cases t with
   | true => simp at h
   | false =>
    simp only [Bool.false_eq_true, if_false] at h
    exact (not_prim 15 (by simpa using h) rfl (by decide)).elim
  exact prims_of c hc _ _ s m h
theorem primsL_of {o : Nat} : (l : List Px) -> (∀ x ∈ l, PxW o x) -> (n : Nat) -> ∀ s m, primI s m ∈ codeL l n -> arS s m
 | [], _, n, s, m, h => by simp [codeL] at h
 | x :: l, hk, n, s, m, h => by
  rw [codeL] at h
  rcases List.mem_append.1 h with h | h
  ·
   exact prims_of x (hk x (by simp)) _ _ s m h
  exact primsL_of l (fun y hy => hk y (List.mem_cons_of_mem _ hy)) _ s m h
end
theorem code_head (x : Px) (t : Bool) (n : Nat) : (codeX x t n)[0]? = some tickI := by cases x <;> (rw [codeX]; rfl)
end Go.Proofs.YtfhbdlobhjegcaaGreatDoor
