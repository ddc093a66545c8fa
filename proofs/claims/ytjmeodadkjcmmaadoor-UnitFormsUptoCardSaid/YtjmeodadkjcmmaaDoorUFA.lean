import Derived.Test.YtjmeodadkjcmmaaDoorGTopHPQ
import Derived.Deep.RegionHeld3
namespace Go.Proofs.YtjmeodadkjcmmaaDoor
open Go.RowKit Go.ChangeShapes Go.WideShapes Go.Deep Go.ChangeAt
set_option linter.unusedVariables false
set_option maxRecDepth 20000
set_option maxHeartbeats 2000000 in
theorem sameTexts_any (A B : Option Addr) (len c1 c2 : Nat) (ss : List ByteArray) (w : World) (h1 : len <= c1) (h2 : len <= c2) (hc1 : c1 <= maxLen) (hc2 : c2 <= maxLen) (hA : zb1 w A len ss) (hB : zb1 w B len ss) :
  Calls Tryd.prog 57 #[.slice A len c1, .slice B len c2] w fun e w' => e = .returned (.bool true) /\ ∃ n, w' = w.drewN n := by
 have hlen : len <= 9223372036854775807 := by unfold maxLen at hc1; omega
 have HA := Lib.hid hA
 have HB := Lib.hid hB
 clear hA hB
 go_enter Tryd.func57, Tryd.ntmps57
 go_wp2_with fail
 go_loopg [5] len (fun g i wx => ∃ k : Nat, g = len - k /\ k <= len /\ i = .int .i64 k /\ ∃ n, w.drewN n = wx)
 case atStart => exact ⟨0, by omega, by omega, rfl, 0, rfl⟩
 obtain ⟨k, hg, hk, rfl, n, rfl⟩ := hrel
 have HG := Lib.hid hg
 clear hg
 by_cases hlt : k < len
 ·
  obtain ⟨b, o, rfl, hbw, hrow⟩ := HA.out.at_ (by omega)
  obtain ⟨b', o', rfl, hbw', hrow'⟩ := HB.out.at_ (by omega)
  have hks : k < ss.length := by rw [HA.out.size]; exact hlt
  have x1 := hrow k hks
  have x2 := hrow' k hks
  have y1 : (k : Int) < (c1 : Int) := by omega
  have y2 : (k : Int) < (c2 : Int) := by omega
  have y3 : (0 : Int) <= (k : Int) := Int.natCast_nonneg _
  have y4 : (k : Int) < (len : Int) := by omega
  clear hrow hrow'
  generalize ss[k] = s at x1 x2
  go_wp2_with fail
  go_quiet (fail)
  go_wp2_with fail
  go_roundg (len - (k + 1))
  case rel => exact ⟨k + 1, rfl, by omega, by go_num, _, rfl⟩
  case measure => have := HG.out; omega
 obtain rfl : k = len := by omega
 go_wp2_with fail
 go_ret
 exact ⟨rfl, _, rfl⟩
theorem quiet_add {P : Program} {f : FuncId} {args : Array Value} {w : World} {a n : Nat} {v : Value}
  (h : Calls P f args (w.drewN (a + n)) fun e w' => e = .returned v /\ ∃ m, w' = (w.drewN (a + n)).drewN m) : Calls P f args (w.drewN (a + n)) fun e w'' => e = .returned v /\ ∃ m, w'' = w.drewN (a + m) :=
 h.mono fun _ _ ⟨he, m, hm⟩ => ⟨he, n + m, by rw [hm, World.drewN_drewN, Nat.add_assoc]⟩
set_option maxHeartbeats 2000000 in
theorem sameShapes_any (A B : Option Addr) (len c1 c2 : Nat) (X Y : List Shp) (w : World) (h1 : len <= c1) (h2 : len <= c2) (hc1 : c1 <= maxLen) (hc2 : c2 <= maxLen) (hA : zz w A len X) (hB : zz w B len Y) (hXY : X.map Shp.sh = Y.map Shp.sh) :
  Calls Tryd.prog 28 #[.slice A len c1, .slice B len c2] w fun e w' => e = .returned (.bool true) /\ ∃ n, w' = w.drewN n := by
 have hlen : len <= 9223372036854775807 := by unfold maxLen at hc1; omega
 have HA := Lib.hid hA
 have HB := Lib.hid hB
 have HXY := Lib.hid hXY
 clear hA hB hXY
 go_enter Tryd.func28, Tryd.ntmps28
 go_wp2_with fail
 go_loopg [5] len (fun g i wx => ∃ k : Nat, g = len - k /\ k <= len /\ i = .int .i64 k /\ ∃ n, w.drewN n = wx)
 case atStart => exact ⟨0, by omega, by omega, rfl, 0, rfl⟩
 obtain ⟨k, hg, hk, rfl, n, rfl⟩ := hrel
 have HG := Lib.hid hg
 clear hg
 by_cases hlt : k < len
 ·
  obtain ⟨b, o, rfl, hbw, hrow⟩ := HA.out.at_ (by omega)
  obtain ⟨b', o', rfl, hbw', hrow'⟩ := HB.out.at_ (by omega)
  have hkx : k < X.length := by rw [HA.out.size]; exact hlt
  have hky : k < Y.length := by rw [HB.out.size]; exact hlt
  have x1 := hrow k hkx
  have x2 := hrow' k hky
  have HX := Lib.hid (HA.out.each X[k] (List.getElem_mem hkx))
  have HY := Lib.hid (HB.out.each Y[k] (List.getElem_mem hky))
  have hsh : X[k].sh = Y[k].sh := by
   have e1 : (X.map Shp.sh)[k]'(by simpa using hkx) = (Y.map Shp.sh)[k]'(by simpa using hky) := by simp only [HXY.out]
   simpa using e1
  generalize X[k] = x at x1 HX hsh
  generalize Y[k] = y at x2 HY hsh
  obtain ⟨n1, A1, l1, d1, s1⟩ := x
  obtain ⟨n2, A2, l2, d2, s2⟩ := y
  simp only [Shp.sh, Prod.mk.injEq] at hsh
  obtain ⟨rfl, rfl⟩ := hsh
  obtain rfl : l1 = l2 := HX.out.strs.size.symm.trans HY.out.strs.size
  obtain ⟨x1a, x1b⟩ := x1
  obtain ⟨x2a, x2b⟩ := x2
  simp only at x1a x1b x2a x2b
  have y1 : (k : Int) < (c1 : Int) := by omega
  have y2 : (k : Int) < (c2 : Int) := by omega
  have y3 : (0 : Int) <= (k : Int) := Int.natCast_nonneg _
  have y4 : (k : Int) < (len : Int) := by omega
  clear hrow hrow'
  go_wp2_with fail
  go_quiet ((go_at_call 57; exact quiet_add (sameTexts_any _ _ _ _ _ _ _ HX.out.le HY.out.le HX.out.cap_ HY.out.cap_ (HX.out.strs.drewN _) (HY.out.strs.drewN _))))
  go_wp2_with fail
  go_roundg (len - (k + 1))
  case rel => exact ⟨k + 1, rfl, by omega, by go_num, _, rfl⟩
  case measure => have := HG.out; omega
 obtain rfl : k = len := by omega
 go_wp2_with fail
 go_ret
 exact ⟨rfl, _, rfl⟩
structure DtRowAt (w : World) (lo hi : Nat) (A : Option Addr) (cap : Nat) (l : List Dt) (cs : List (List Value)) : Prop where
 len : cs.length = l.length
 le : l.length <= cap
 cap_ : cap <= maxLen
 row : RowIn w lo hi A cs
 each : ∀ i, (h : i < l.length) -> (h' : i < cs.length) -> DtIn w lo hi cs[i] l[i]
theorem DtIn.open_ {w : World} {lo hi : Nat} {k n : Int} {t : ByteArray} {l : List Dt} {c : List Value} (h : DtIn w lo hi c (.mk k n t l)) : ∃ A cap cs, c = [.int .i64 k, .int .i64 n, .string t, .slice A l.length cap] /\ DtRowAt w lo hi A cap l cs := by
 cases h with
 | mk _ _ _ A cap _ cs hl a1 a2 row each => exact ⟨A, cap, cs, rfl, hl, a1, a2, row, each⟩
theorem DtIn.keep {w w' : World} {lo hi : Nat} {c : List Value} {t : Dt} (h : DtIn w lo hi c t) (hb : Below w.heap.size w w') : DtIn w' lo hi c t := h.mono (zw hb) hb.size (Nat.le_refl _) (Nat.le_refl _)
theorem DtRowAt.below {w w' : World} {lo hi : Nat} {A : Option Addr} {cap : Nat} {l : List Dt} {cs : List (List Value)} (h : DtRowAt w lo hi A cap l cs) (hb : Below w.heap.size w w') : DtRowAt w' lo hi A cap l cs :=
 ⟨h.len, h.le, h.cap_, h.row.mono (zw hb) hb.size (Nat.le_refl _) (Nat.le_refl _), fun i h1 h2 => (h.each i h1 h2).keep hb⟩
def Alike (w : World) (e : Ending) (w' : World) : Prop := e = .returned (.bool true) /\ Below w.heap.size w w'
def SameD (t : Dt) : Prop := ∀ (w : World) (lo hi lo' hi' : Nat) (c c' : List Value), DtIn w lo hi c t -> DtIn w lo' hi' c' t -> Calls Tryd.prog 58 #[.agg c.toArray, .agg c'.toArray] w (Alike w)
set_option maxHeartbeats 4000000 in
set_option maxRecDepth 20000 in
theorem sameData_of (l : List Dt) (hS : ∀ t ∈ l, SameD t) (w : World) (lo hi lo' hi' : Nat) (A A' : Option Addr) (cap cap' : Nat) (cs cs' : List (List Value)) (h : DtRowAt w lo hi A cap l cs) (h' : DtRowAt w lo' hi' A' cap' l cs') :
  Calls Tryd.prog 76 #[.slice A l.length cap, .slice A' l.length cap'] w (Alike w) := by
 have HS := Lib.hid hS
 have H := Lib.hid h
 have H' := Lib.hid h'
 obtain ⟨n, hn⟩ : ∃ n, l.length = n := ⟨_, rfl⟩
 have hcap := h.cap_
 have hle := h.le
 have HN := Lib.hid hn
 rw [hn] at hle ⊢
 have hnm : n <= 9223372036854775807 := by unfold maxLen at hcap; omega
 clear hS h h' hcap hle hn
 go_enter Tryd.func76, Tryd.ntmps76
 go_wp2_with fail
 go_loopg [5] n (fun g x wr => ∃ k : Nat, g = n - k /\ k <= n /\ x = .int .i64 k /\ Below w.heap.size w wr)
 case atStart => exact ⟨0, rfl, Nat.zero_le _, rfl, Below.refl _ _⟩
 obtain ⟨k, hg, hk, rfl, hb⟩ := hrel
 have HG := Lib.hid hg
 have HB := Lib.hid hb
 clear hg hb
 by_cases hlt : k < n
 ·
  have hlt' : k < l.length := by rw [HN.out]; exact hlt
  have L := H.out.below HB.out
  have L' := H'.out.below HB.out
  obtain ⟨b, o, rfl, _, _, hbw, hrow⟩ := L.row (by rw [L.len]; omega)
  obtain ⟨b', o', rfl, _, _, hbw', hrow'⟩ := L'.row (by rw [L'.len]; omega)
  have hk1 : k < cs.length := by rw [L.len]; exact hlt'
  have hk2 : k < cs'.length := by rw [L'.len]; exact hlt'
  have d1 := L.each k hlt' hk1
  have d2 := L'.each k hlt' hk2
  have r1 := hrow k hk1
  have r2 := hrow' k hk2
  obtain ⟨t, ht⟩ : ∃ t, l[k] = t := ⟨_, rfl⟩
  have hST := HS.out l[k] (List.getElem_mem hlt')
  rw [ht] at d1 d2 hST
  have HST := Lib.hid hST
  obtain ⟨kk, nn, ss, ll⟩ := t
  have D1 := Lib.hid d1
  have D2 := Lib.hid d2
  obtain ⟨A1, c1, q1, e1, _⟩ := d1.open_
  obtain ⟨A2, c2, q2, e2, _⟩ := d2.open_
  rw [e1] at D1 r1
  rw [e2] at D2 r2
  have m10 : wr.cell? ⟨b, o + k * 4, none⟩ = some (.int .i64 kk) := r1 0 (by simp)
  have m11 : wr.cell? ⟨b, o + k * 4 + 1, none⟩ = some (.int .i64 nn) := r1 1 (by simp)
  have m12 : wr.cell? ⟨b, o + k * 4 + 2, none⟩ = some (.string ss) := r1 2 (by simp)
  have m13 : wr.cell? ⟨b, o + k * 4 + 3, none⟩ = some (.slice A1 ll.length c1) := r1 3 (by simp)
  have m20 : wr.cell? ⟨b', o' + k * 4, none⟩ = some (.int .i64 kk) := r2 0 (by simp)
  have m21 : wr.cell? ⟨b', o' + k * 4 + 1, none⟩ = some (.int .i64 nn) := r2 1 (by simp)
  have m22 : wr.cell? ⟨b', o' + k * 4 + 2, none⟩ = some (.string ss) := r2 2 (by simp)
  have m23 : wr.cell? ⟨b', o' + k * 4 + 3, none⟩ = some (.slice A2 ll.length c2) := r2 3 (by simp)
  have y0 : (0 : Int) <= (k : Int) := Int.natCast_nonneg _
  have y1 : (k : Int) < (n : Int) := by omega
  clear r1 r2 d1 d2 e1 e2 hrow hrow' L L' hST hk1 hk2 ht
  go_wp2_with fail
  go_region_held3 (fun w' => w'.cell? ⟨b, o + k * 4, none⟩ = some (.int .i64 kk) /\ w'.cell? ⟨b, o + k * 4 + 1, none⟩ = some (.int .i64 nn) /\ w'.cell? ⟨b, o + k * 4 + 2, none⟩ = some (.string ss) /\ w'.cell? ⟨b, o + k * 4 + 3, none⟩ = some (.slice A1 ll.length c1) /\ w'.cell? ⟨b', o' + k * 4, none⟩ = some (.int .i64 kk) /\ w'.cell? ⟨b', o' + k * 4 + 1, none⟩ = some (.int .i64 nn) /\ w'.cell? ⟨b', o' + k * 4 + 2, none⟩ = some (.string ss) /\ w'.cell? ⟨b', o' + k * 4 + 3, none⟩ = some (.slice A2 ll.length c2)) (go_keep)
   (first | (go_at_call 58; refine (HST.out _ lo hi lo' hi' _ _ (D1.out.keep (show Below wr.heap.size wr wr.drew from (Below.refl _ _).drew)) (D2.out.keep (show Below wr.heap.size wr wr.drew from (Below.refl _ _).drew))).mono ?_; rintro e w5 ⟨rfl, hb5⟩; have HB5 := Lib.hid (HB.out.trans ((Below.refl wr.heap.size wr).drew.trans hb5 |>.mono HB.out.size)); have m10' := (hb5.cell (p := ⟨b, o + k * 4, none⟩) hbw).trans m10; have m11' := (hb5.cell (p := ⟨b, o + k * 4 + 1, none⟩) hbw).trans m11; have m12' := (hb5.cell (p := ⟨b, o + k * 4 + 2, none⟩) hbw).trans m12; have m13' := (hb5.cell (p := ⟨b, o + k * 4 + 3, none⟩) hbw).trans m13; have m20' := (hb5.cell (p := ⟨b', o' + k * 4, none⟩) hbw').trans m20; have m21' := (hb5.cell (p := ⟨b', o' + k * 4 + 1, none⟩) hbw').trans m21; have m22' := (hb5.cell (p := ⟨b', o' + k * 4 + 2, none⟩) hbw').trans m22; have m23' := (hb5.cell (p := ⟨b', o' + k * 4 + 3, none⟩) hbw').trans m23; clear hb5))
  go_wp2_with fail
  go_roundg (n - (k + 1))
  case measure => have := HG.out; omega
  case rel => exact ⟨k + 1, rfl, by omega, by go_num, by first | exact HB5.out | exact HB5.out.drew⟩
 obtain rfl : k = n := by omega
 go_wp2_with fail
 go_ret
 exact ⟨rfl, HB.out⟩
set_option maxHeartbeats 2000000 in
set_option maxRecDepth 20000 in
theorem sameDatum_of (k n : Int) (s : ByteArray) (l : List Dt) (hS : ∀ t ∈ l, SameD t) : SameD (.mk k n s l) := by
 intro w lo hi lo' hi' c c' h h'
 obtain ⟨A, cap, cs, rfl, hl⟩ := h.open_
 obtain ⟨A', cap', cs', rfl, hl'⟩ := h'.open_
 have HS := Lib.hid hS
 have HL := Lib.hid hl
 have HL' := Lib.hid hl'
 have hb : Below w.heap.size w ((w.alloc (.cells #[.int .i64 k, .int .i64 n, .string s, .slice A l.length cap] 38)).alloc (.cells #[.int .i64 k, .int .i64 n, .string s, .slice A' l.length cap'] 38)) := ((Below.refl _ _).alloc (Nat.le_refl _) _).alloc (by simp) _
 have HB := Lib.hid hb
 clear h h' hS hl hl' hb
 go_enter Tryd.func58, Tryd.ntmps58
 go_wp2_with fail
 refine (sameData_of l HS.out _ lo hi lo' hi' A A' cap cap' cs cs' (HL.out.below HB.out) (HL'.out.below HB.out)).mono ?_
 rintro e w5 ⟨rfl, hb5⟩
 have HB5 := Lib.hid (HB.out.trans (hb5.mono HB.out.size))
 clear hb5
 go_wp2_with fail
 go_ret
 exact ⟨rfl, HB5.out⟩
theorem sameDatum_all : ∀ (n : Nat) (t : Dt), SizeOf.sizeOf t <= n -> SameD t := by
 intro n
 induction n with
 | zero => intro t h; cases t with | mk k n s l => simp at h
 | succ n ih =>
  intro t h
  cases t with
  | mk k m s l =>
   refine sameDatum_of k m s l fun x hx => ih x ?_
   have := List.sizeOf_lt_of_mem hx
   simp only [Dt.mk.sizeOf_spec] at h
   omega
structure ArgsAt (W0 w : World) (lo hi : Nat) (A : Option Addr) (cap : Nat) (l : List Ex) (cs : List (List Value)) : Prop where
 len : cs.length = l.length
 le : l.length <= cap
 cap_ : cap <= maxLen
 row : RowK w lo hi 9 A cs
 each : ∀ i, (h : i < l.length) -> (h' : i < cs.length) -> ExIn W0 w lo hi cs[i] l[i]
theorem ArgsAt.below {W0 w w' : World} {lo hi : Nat} {A : Option Addr} {cap : Nat} {l : List Ex} {cs : List (List Value)} (h : ArgsAt W0 w lo hi A cap l cs) (hb : Below w.heap.size w w') : ArgsAt W0 w' lo hi A cap l cs :=
 ⟨h.len, h.le, h.cap_, h.row.mono (zw hb) hb.size (Nat.le_refl _) (Nat.le_refl _), fun i h1 h2 => (h.each i h1 h2).mono (zw hb) hb.size (Nat.le_refl _) (Nat.le_refl _)⟩
theorem ExIn.keep {W0 w w' : World} {lo hi : Nat} {c : List Value} {t : Ex} (h : ExIn W0 w lo hi c t) (hb : Below w.heap.size w w') : ExIn W0 w' lo hi c t := h.mono (zw hb) hb.size (Nat.le_refl _) (Nat.le_refl _)
theorem ExIn.open_ {W0 w : World} {lo hi : Nat} {k N : Int} {d : Dt} {S : ByteArray} {nm : List ByteArray} {ar : List Ex} {c : List Value} (h : ExIn W0 w lo hi c (.mk k d S N nm ar)) :
  ∃ dk dn ds dA dl dc nA nc aA ac cs, c = [.int .i64 k, .int .i64 dk, .int .i64 dn, .string ds, .slice dA dl dc, .string S, .int .i64 N, .slice nA nm.length nc, .slice aA ar.length ac] /\ DtIn W0 0 W0.heap.size [.int .i64 dk, .int .i64 dn, .string ds, .slice dA dl dc] d /\ NmIn w lo hi nA nc nm /\ ArgsAt W0 w lo hi aA ac ar cs := by
 cases h with
 | mk _ dk dn ds dA dl dc _ hd _ _ nA nc _ hn aA ac _ cs hl h1 h2 row each => exact ⟨dk, dn, ds, dA, dl, dc, nA, nc, aA, ac, cs, rfl, hd, hn, hl, h1, h2, row, each⟩
theorem NmIn.keep {w w' : World} {lo hi : Nat} {A : Option Addr} {cap : Nat} {ss : List ByteArray} (h : NmIn w lo hi A cap ss) (hb : Below w.heap.size w w') : NmIn w' lo hi A cap ss := h.mono (zw hb) hb.size (Nat.le_refl _) (Nat.le_refl _)
theorem dt_later {W0 w : World} {c : List Value} {d : Dt} (h : DtIn W0 0 W0.heap.size c d) (hb : Below W0.heap.size W0 w) : DtIn w 0 W0.heap.size c d := h.mono (fun b _ h2 _ => hb.block b h2) hb.size (Nat.le_refl _) (Nat.le_refl _)
def SameX (t : Ex) : Prop := ∀ (W0 w : World) (lo hi lo' hi' : Nat) (c c' : List Value), Below W0.heap.size W0 w -> ExIn W0 w lo hi c t -> ExIn W0 w lo' hi' c' t -> Calls Tryd.prog 29 #[.agg c.toArray, .agg c'.toArray] w (Alike w)
set_option maxHeartbeats 8000000 in
theorem sameExprs_of (l : List Ex) (hS : ∀ t ∈ l, SameX t) (W0 w : World) (lo hi lo' hi' : Nat) (A A' : Option Addr) (cap cap' : Nat) (cs cs' : List (List Value)) (hw : Below W0.heap.size W0 w) (h : ArgsAt W0 w lo hi A cap l cs) (h' : ArgsAt W0 w lo' hi' A' cap' l cs') :
  Calls Tryd.prog 30 #[.slice A l.length cap, .slice A' l.length cap'] w (Alike w) := by
 have HS := Lib.hid hS
 have HW := Lib.hid hw
 have H := Lib.hid h
 have H' := Lib.hid h'
 obtain ⟨n, hn⟩ : ∃ n, l.length = n := ⟨_, rfl⟩
 have hcap := h.cap_
 have hle := h.le
 have HN := Lib.hid hn
 rw [hn] at hle ⊢
 have hnm : n <= 9223372036854775807 := by unfold maxLen at hcap; omega
 clear hS h h' hcap hle hn hw
 go_enter Tryd.func30, Tryd.ntmps30
 go_wp2_with fail
 go_loopg [5] n (fun g x wr => ∃ k : Nat, g = n - k /\ k <= n /\ x = .int .i64 k /\ Below w.heap.size w wr)
 case atStart => exact ⟨0, rfl, Nat.zero_le _, rfl, Below.refl _ _⟩
 obtain ⟨k, hg, hk, rfl, hb⟩ := hrel
 have HG := Lib.hid hg
 have HB := Lib.hid hb
 clear hg hb
 by_cases hlt : k < n
 ·
  have hlt' : k < l.length := by rw [HN.out]; exact hlt
  have L := H.out.below HB.out
  have L' := H'.out.below HB.out
  obtain ⟨b, o, rfl, _, _, hbw, hrow⟩ := L.row (by rw [L.len]; omega)
  obtain ⟨b', o', rfl, _, _, hbw', hrow'⟩ := L'.row (by rw [L'.len]; omega)
  have hk1 : k < cs.length := by rw [L.len]; exact hlt'
  have hk2 : k < cs'.length := by rw [L'.len]; exact hlt'
  have d1 := L.each k hlt' hk1
  have d2 := L'.each k hlt' hk2
  have r1 := hrow k hk1
  have r2 := hrow' k hk2
  have HWR := Lib.hid (HW.out.trans (HB.out.mono HW.out.size))
  obtain ⟨t, ht⟩ : ∃ t, l[k] = t := ⟨_, rfl⟩
  have hST := HS.out l[k] (List.getElem_mem hlt')
  rw [ht] at d1 d2 hST
  have HST := Lib.hid hST
  obtain ⟨k_, d, S, N, nm, ar⟩ := t
  have D1 := Lib.hid d1
  have D2 := Lib.hid d2
  obtain ⟨dk1, dn1, ds1, dA1, dl1, dc1, nA1, nc1, aA1, ac1, _, e1, _⟩ := d1.open_
  obtain ⟨dk2, dn2, ds2, dA2, dl2, dc2, nA2, nc2, aA2, ac2, _, e2, _⟩ := d2.open_
  rw [e1] at D1 r1
  rw [e2] at D2 r2
  have m10 : wr.cell? ⟨b, o + k * 9, none⟩ = some (.int .i64 k_) := r1 0 (by simp)
  have m11 : wr.cell? ⟨b, o + k * 9 + 1, none⟩ = some (.int .i64 dk1) := r1 1 (by simp)
  have m12 : wr.cell? ⟨b, o + k * 9 + 2, none⟩ = some (.int .i64 dn1) := r1 2 (by simp)
  have m13 : wr.cell? ⟨b, o + k * 9 + 3, none⟩ = some (.string ds1) := r1 3 (by simp)
  have m14 : wr.cell? ⟨b, o + k * 9 + 4, none⟩ = some (.slice dA1 dl1 dc1) := r1 4 (by simp)
  have m15 : wr.cell? ⟨b, o + k * 9 + 5, none⟩ = some (.string S) := r1 5 (by simp)
  have m16 : wr.cell? ⟨b, o + k * 9 + 6, none⟩ = some (.int .i64 N) := r1 6 (by simp)
  have m17 : wr.cell? ⟨b, o + k * 9 + 7, none⟩ = some (.slice nA1 nm.length nc1) := r1 7 (by simp)
  have m18 : wr.cell? ⟨b, o + k * 9 + 8, none⟩ = some (.slice aA1 ar.length ac1) := r1 8 (by simp)
  have m20 : wr.cell? ⟨b', o' + k * 9, none⟩ = some (.int .i64 k_) := r2 0 (by simp)
  have m21 : wr.cell? ⟨b', o' + k * 9 + 1, none⟩ = some (.int .i64 dk2) := r2 1 (by simp)
  have m22 : wr.cell? ⟨b', o' + k * 9 + 2, none⟩ = some (.int .i64 dn2) := r2 2 (by simp)
  have m23 : wr.cell? ⟨b', o' + k * 9 + 3, none⟩ = some (.string ds2) := r2 3 (by simp)
  have m24 : wr.cell? ⟨b', o' + k * 9 + 4, none⟩ = some (.slice dA2 dl2 dc2) := r2 4 (by simp)
  have m25 : wr.cell? ⟨b', o' + k * 9 + 5, none⟩ = some (.string S) := r2 5 (by simp)
  have m26 : wr.cell? ⟨b', o' + k * 9 + 6, none⟩ = some (.int .i64 N) := r2 6 (by simp)
  have m27 : wr.cell? ⟨b', o' + k * 9 + 7, none⟩ = some (.slice nA2 nm.length nc2) := r2 7 (by simp)
  have m28 : wr.cell? ⟨b', o' + k * 9 + 8, none⟩ = some (.slice aA2 ar.length ac2) := r2 8 (by simp)
  have y0 : (0 : Int) <= (k : Int) := Int.natCast_nonneg _
  have y1 : (k : Int) < (n : Int) := by omega
  clear r1 r2 d1 d2 e1 e2 hrow hrow' L L' hST hk1 hk2 ht
  go_wp2_with fail
  go_region_held3 (fun w' => w'.cell? ⟨b, o + k * 9, none⟩ = some (.int .i64 k_) /\ w'.cell? ⟨b, o + k * 9 + 1, none⟩ = some (.int .i64 dk1) /\ w'.cell? ⟨b, o + k * 9 + 2, none⟩ = some (.int .i64 dn1) /\ w'.cell? ⟨b, o + k * 9 + 3, none⟩ = some (.string ds1) /\ w'.cell? ⟨b, o + k * 9 + 4, none⟩ = some (.slice dA1 dl1 dc1) /\ w'.cell? ⟨b, o + k * 9 + 5, none⟩ = some (.string S) /\ w'.cell? ⟨b, o + k * 9 + 6, none⟩ = some (.int .i64 N) /\ w'.cell? ⟨b, o + k * 9 + 7, none⟩ = some (.slice nA1 nm.length nc1) /\ w'.cell? ⟨b, o + k * 9 + 8, none⟩ = some (.slice aA1 ar.length ac1) /\ w'.cell? ⟨b', o' + k * 9, none⟩ = some (.int .i64 k_) /\ w'.cell? ⟨b', o' + k * 9 + 1, none⟩ = some (.int .i64 dk2) /\ w'.cell? ⟨b', o' + k * 9 + 2, none⟩ = some (.int .i64 dn2) /\ w'.cell? ⟨b', o' + k * 9 + 3, none⟩ = some (.string ds2) /\ w'.cell? ⟨b', o' + k * 9 + 4, none⟩ = some (.slice dA2 dl2 dc2) /\ w'.cell? ⟨b', o' + k * 9 + 5, none⟩ = some (.string S) /\ w'.cell? ⟨b', o' + k * 9 + 6, none⟩ = some (.int .i64 N) /\ w'.cell? ⟨b', o' + k * 9 + 7, none⟩ = some (.slice nA2 nm.length nc2) /\ w'.cell? ⟨b', o' + k * 9 + 8, none⟩ = some (.slice aA2 ar.length ac2)) (go_keep)
   (first | (go_at_call 29; refine (HST.out W0 _ lo hi lo' hi' _ _ (HWR.out.trans ((show Below wr.heap.size wr wr.drew from (Below.refl _ _).drew).mono HWR.out.size)) (D1.out.keep (show Below wr.heap.size wr wr.drew from (Below.refl _ _).drew)) (D2.out.keep (show Below wr.heap.size wr wr.drew from (Below.refl _ _).drew))).mono ?_; rintro e w5 ⟨rfl, hb5⟩; have HB5 := Lib.hid (HB.out.trans ((Below.refl wr.heap.size wr).drew.trans hb5 |>.mono HB.out.size)); have m10' := (hb5.cell (p := ⟨b, o + k * 9, none⟩) hbw).trans m10; have m11' := (hb5.cell (p := ⟨b, o + k * 9 + 1, none⟩) hbw).trans m11; have m12' := (hb5.cell (p := ⟨b, o + k * 9 + 2, none⟩) hbw).trans m12; have m13' := (hb5.cell (p := ⟨b, o + k * 9 + 3, none⟩) hbw).trans m13; have m14' := (hb5.cell (p := ⟨b, o + k * 9 + 4, none⟩) hbw).trans m14; have m15' := (hb5.cell (p := ⟨b, o + k * 9 + 5, none⟩) hbw).trans m15; have m16' := (hb5.cell (p := ⟨b, o + k * 9 + 6, none⟩) hbw).trans m16; have m17' := (hb5.cell (p := ⟨b, o + k * 9 + 7, none⟩) hbw).trans m17; have m18' := (hb5.cell (p := ⟨b, o + k * 9 + 8, none⟩) hbw).trans m18; have m20' := (hb5.cell (p := ⟨b', o' + k * 9, none⟩) hbw').trans m20; have m21' := (hb5.cell (p := ⟨b', o' + k * 9 + 1, none⟩) hbw').trans m21; have m22' := (hb5.cell (p := ⟨b', o' + k * 9 + 2, none⟩) hbw').trans m22; have m23' := (hb5.cell (p := ⟨b', o' + k * 9 + 3, none⟩) hbw').trans m23; have m24' := (hb5.cell (p := ⟨b', o' + k * 9 + 4, none⟩) hbw').trans m24; have m25' := (hb5.cell (p := ⟨b', o' + k * 9 + 5, none⟩) hbw').trans m25; have m26' := (hb5.cell (p := ⟨b', o' + k * 9 + 6, none⟩) hbw').trans m26; have m27' := (hb5.cell (p := ⟨b', o' + k * 9 + 7, none⟩) hbw').trans m27; have m28' := (hb5.cell (p := ⟨b', o' + k * 9 + 8, none⟩) hbw').trans m28; clear hb5))
  go_wp2_with fail
  go_roundg (n - (k + 1))
  case measure => have := HG.out; omega
  case rel => exact ⟨k + 1, rfl, by omega, by go_num, by first | exact HB5.out | exact HB5.out.drew⟩
 obtain rfl : k = n := by omega
 go_wp2_with fail
 go_ret
 exact ⟨rfl, HB.out⟩
set_option maxHeartbeats 4000000 in
theorem sameExpr_of (k N : Int) (d : Dt) (S : ByteArray) (nm : List ByteArray) (ar : List Ex) (hS : ∀ t ∈ ar, SameX t) : SameX (.mk k d S N nm ar) := by
 intro W0 w lo hi lo' hi' c c' hw h h'
 obtain ⟨dk1, dn1, ds1, dA1, dl1, dc1, nA1, nc1, aA1, ac1, cs1, rfl, hd1, hn1, ha1⟩ := h.open_
 obtain ⟨dk2, dn2, ds2, dA2, dl2, dc2, nA2, nc2, aA2, ac2, cs2, rfl, hd2, hn2, ha2⟩ := h'.open_
 have HS := Lib.hid hS
 have D1 := Lib.hid hd1
 have D2 := Lib.hid hd2
 have N1 := Lib.hid hn1
 have N2 := Lib.hid hn2
 have A1 := Lib.hid ha1
 have A2 := Lib.hid ha2
 have HW := Lib.hid hw
 obtain ⟨wb, hwb⟩ : ∃ wb, (w.alloc (.cells #[.int .i64 k, .int .i64 dk1, .int .i64 dn1, .string ds1, .slice dA1 dl1 dc1, .string S, .int .i64 N, .slice nA1 nm.length nc1, .slice aA1 ar.length ac1] 63)).alloc (.cells #[.int .i64 k, .int .i64 dk2, .int .i64 dn2, .string ds2, .slice dA2 dl2 dc2, .string S, .int .i64 N, .slice nA2 nm.length nc2, .slice aA2 ar.length ac2] 63) = wb := ⟨_, rfl⟩
 have hb : Below w.heap.size w wb := by rw [<- hwb]; exact ((Below.refl _ _).alloc (Nat.le_refl _) _).alloc (by simp) _
 have hz : w.heap.size + 1 = (w.alloc (.cells #[.int .i64 k, .int .i64 dk1, .int .i64 dn1, .string ds1, .slice dA1 dl1 dc1, .string S, .int .i64 N, .slice nA1 nm.length nc1, .slice aA1 ar.length ac1] 63)).heap.size := by simp
 have hwz : wb.heap.size = w.heap.size + 2 := by rw [<- hwb]; simp
 have HX0 := Lib.hid (show ∀ j, wb.cell? ⟨w.heap.size, j, none⟩ = (#[.int .i64 k, .int .i64 dk1, .int .i64 dn1, .string ds1, .slice dA1 dl1 dc1, .string S, .int .i64 N, .slice nA1 nm.length nc1, .slice aA1 ar.length ac1] : Array Value)[j]? from fun j => by rw [<- hwb]; exact (World.cell?_alloc_lt _ _ ⟨w.heap.size, j, none⟩ (by simp)).trans (za _ _ _ j))
 have HX1 := Lib.hid (show ∀ j, wb.cell? ⟨w.heap.size + 1, j, none⟩ = (#[.int .i64 k, .int .i64 dk2, .int .i64 dn2, .string ds2, .slice dA2 dl2 dc2, .string S, .int .i64 N, .slice nA2 nm.length nc2, .slice aA2 ar.length ac2] : Array Value)[j]? from fun j => by rw [<- hwb, hz]; exact za _ _ _ j)
 have HWB := Lib.hid hwb
 have HB := Lib.hid hb
 have HBW := Lib.hid (hw.trans (hb.mono hw.size))
 have hdd : ∃ l, d = .mk d.k d.n d.s l := by cases d; exact ⟨_, rfl⟩
 clear h h' hS hd1 hd2 hn1 hn2 ha1 ha2 hw hwb hb hz hdd
 have x00 : wb.cell? ⟨w.heap.size, 0, none⟩ = some (.int .i64 k) := HX0.out 0
 have x01 : wb.cell? ⟨w.heap.size, 1, none⟩ = some (.int .i64 dk1) := HX0.out 1
 have x02 : wb.cell? ⟨w.heap.size, 2, none⟩ = some (.int .i64 dn1) := HX0.out 2
 have x03 : wb.cell? ⟨w.heap.size, 3, none⟩ = some (.string ds1) := HX0.out 3
 have x04 : wb.cell? ⟨w.heap.size, 4, none⟩ = some (.slice dA1 dl1 dc1) := HX0.out 4
 have x05 : wb.cell? ⟨w.heap.size, 5, none⟩ = some (.string S) := HX0.out 5
 have x06 : wb.cell? ⟨w.heap.size, 6, none⟩ = some (.int .i64 N) := HX0.out 6
 have x07 : wb.cell? ⟨w.heap.size, 7, none⟩ = some (.slice nA1 nm.length nc1) := HX0.out 7
 have x08 : wb.cell? ⟨w.heap.size, 8, none⟩ = some (.slice aA1 ar.length ac1) := HX0.out 8
 have x10 : wb.cell? ⟨w.heap.size + 1, 0, none⟩ = some (.int .i64 k) := HX1.out 0
 have x11 : wb.cell? ⟨w.heap.size + 1, 1, none⟩ = some (.int .i64 dk2) := HX1.out 1
 have x12 : wb.cell? ⟨w.heap.size + 1, 2, none⟩ = some (.int .i64 dn2) := HX1.out 2
 have x13 : wb.cell? ⟨w.heap.size + 1, 3, none⟩ = some (.string ds2) := HX1.out 3
 have x14 : wb.cell? ⟨w.heap.size + 1, 4, none⟩ = some (.slice dA2 dl2 dc2) := HX1.out 4
 have x15 : wb.cell? ⟨w.heap.size + 1, 5, none⟩ = some (.string S) := HX1.out 5
 have x16 : wb.cell? ⟨w.heap.size + 1, 6, none⟩ = some (.int .i64 N) := HX1.out 6
 have x17 : wb.cell? ⟨w.heap.size + 1, 7, none⟩ = some (.slice nA2 nm.length nc2) := HX1.out 7
 have x18 : wb.cell? ⟨w.heap.size + 1, 8, none⟩ = some (.slice aA2 ar.length ac2) := HX1.out 8
 go_enter Tryd.func29, Tryd.ntmps29
 go_upto_region 1 with fail
 rw [HWB.out]
 go_wp2_with fail
 refine (sameDatum_all _ d (Nat.le_refl _) wb 0 W0.heap.size 0 W0.heap.size _ _ (dt_later D1.out HBW.out) (dt_later D2.out HBW.out)).mono ?_
 rintro e w5 ⟨rfl, hb5⟩
 have hs5 := hb5.size
 have y504 := (hb5.cell (p := ⟨w.heap.size, 4, none⟩) (by show w.heap.size < _; omega)).trans x04
 have y505 := (hb5.cell (p := ⟨w.heap.size, 5, none⟩) (by show w.heap.size < _; omega)).trans x05
 have y507 := (hb5.cell (p := ⟨w.heap.size, 7, none⟩) (by show w.heap.size < _; omega)).trans x07
 have y508 := (hb5.cell (p := ⟨w.heap.size, 8, none⟩) (by show w.heap.size < _; omega)).trans x08
 have y514 := (hb5.cell (p := ⟨w.heap.size + 1, 4, none⟩) (by show w.heap.size + 1 < _; omega)).trans x14
 have y515 := (hb5.cell (p := ⟨w.heap.size + 1, 5, none⟩) (by show w.heap.size + 1 < _; omega)).trans x15
 have y517 := (hb5.cell (p := ⟨w.heap.size + 1, 7, none⟩) (by show w.heap.size + 1 < _; omega)).trans x17
 have y518 := (hb5.cell (p := ⟨w.heap.size + 1, 8, none⟩) (by show w.heap.size + 1 < _; omega)).trans x18
 have HB5 := Lib.hid (HB.out.trans (hb5.mono HB.out.size))
 clear hb5
 go_wp2_with fail
 refine (sameTexts_any nA1 nA2 nm.length nc1 nc2 nm w5 N1.out.le N2.out.le N1.out.cap_ N2.out.cap_ (N1.out.keep HB5.out).strs (N2.out.keep HB5.out).strs).mono ?_
 rintro e w6 ⟨rfl, m6, hm6⟩
 have hb6 : Below w5.heap.size w5 w6 := by rw [hm6]; exact below_drewN (Below.refl _ _) _
 have hs6 := hb6.size
 have y608 := (hb6.cell (p := ⟨w.heap.size, 8, none⟩) (by show w.heap.size < _; omega)).trans y508
 have y618 := (hb6.cell (p := ⟨w.heap.size + 1, 8, none⟩) (by show w.heap.size + 1 < _; omega)).trans y518
 have HB6 := Lib.hid (HB5.out.trans (hb6.mono HB5.out.size))
 clear hb6 hm6
 go_wp2_with fail
 refine (sameExprs_of ar HS.out W0 w6 lo hi lo' hi' aA1 aA2 ac1 ac2 cs1 cs2 (HW.out.trans (HB6.out.mono HW.out.size)) (A1.out.below HB6.out) (A2.out.below HB6.out)).mono ?_
 rintro e w7 ⟨rfl, hb7⟩
 have HB7 := Lib.hid (HB6.out.trans (hb7.mono HB6.out.size))
 clear hb7
 go_wp2_with fail
 go_ret
 exact ⟨rfl, HB7.out⟩
theorem sameExpr_all : ∀ (n : Nat) (t : Ex), SizeOf.sizeOf t <= n -> SameX t := by
 intro n
 induction n with
 | zero => intro t h; cases t with | mk k d s n nm ar => simp at h
 | succ n ih =>
  intro t h
  cases t with
  | mk k d s m nm ar =>
   refine sameExpr_of k m d s nm ar fun x hx => ih x ?_
   have := List.sizeOf_lt_of_mem hx
   simp only [Ex.mk.sizeOf_spec] at h
   omega
end Go.Proofs.YtjmeodadkjcmmaaDoor
