import Derived.Test.YtjmeodadkjcmmaaDoorTopB
namespace Go.Proofs.YtjmeodadkjcmmaaDoor
open Go.RowKit Go.ChangeShapes Go.WideShapes Go.Deep Go.ChangeAt
set_option linter.unusedVariables false
set_option maxRecDepth 20000
structure NE where
 name : ByteArray
 A : Option Addr
 n : Nat
 c : Nat
structure NEsAt (w : World) (A : Option Addr) (len : Nat) (L : List NE) : Prop where
 size : L.length = len
 at_ : 0 < len -> ∃ b o, A = some ⟨b, o, none⟩ /\ b < w.heap.size /\ ∀ i, (h : i < L.length) -> w.cell? ⟨b, o + i * 2, none⟩ = some (.string L[i].name) /\ w.cell? ⟨b, o + i * 2 + 1, none⟩ = some (.slice L[i].A L[i].n L[i].c)
theorem NEsAt.below {w w' : World} {A : Option Addr} {len : Nat} {L : List NE} (h : NEsAt w A len L) (hb : Below w.heap.size w w') : NEsAt w' A len L :=
 ⟨h.size, fun h0 => by
  obtain ⟨b, o, rfl, hl, hc⟩ := h.at_ h0
  exact ⟨b, o, rfl, Nat.lt_of_lt_of_le hl hb.size, fun i hi => ⟨(hb.cell (p := ⟨b, o + i * 2, none⟩) hl).trans (hc i hi).1, (hb.cell (p := ⟨b, o + i * 2 + 1, none⟩) hl).trans (hc i hi).2⟩⟩⟩
def Shp.ne (x : Shp) : NE := ⟨x.name, x.A, x.len, x.cap⟩
theorem zz.nes {w : World} {A : Option Addr} {len : Nat} {L : List Shp} (h : zz w A len L) : NEsAt w A len (L.map Shp.ne) :=
 ⟨by simpa using h.size, fun h0 => by
  obtain ⟨b, o, rfl, hl, hc⟩ := h.at_ h0
  refine ⟨b, o, rfl, hl, fun i hi => ?_⟩
  have hi' : i < L.length := by simpa using hi
  simpa [Shp.ne] using hc i hi'⟩
def idxB (p : ByteArray -> Bool) (L : List ByteArray) : Int := if L.any p = true then ((L.findIdx p : Nat) : Int) else -1
theorem idxB_at {p : ByteArray -> Bool} {L : List ByteArray} {k : Nat} (hk : k < L.length) (h : p L[k] = true) (hb : ∀ j, j < k -> (hj : j < L.length) -> p L[j] = false) : idxB p L = k := by
 have ha : L.any p = true := List.any_eq_true.2 ⟨_, List.getElem_mem hk, h⟩
 unfold idxB
 rw [if_pos ha]
 congr 1
 have h1 : L.findIdx p <= k := by
  rcases Nat.lt_or_ge k (L.findIdx p) with h' | h'
  ·
   have := List.not_of_lt_findIdx h'
   rw [h] at this
   simp at this
  exact h'
 rcases Nat.lt_or_eq_of_le h1 with h2 | h2
 ·
  have h3 : L.findIdx p < L.length := by omega
  have := hb _ h2 h3
  rw [List.findIdx_getElem (w := h3)] at this
  cases this
 exact h2
theorem idxB_no {p : ByteArray -> Bool} {L : List ByteArray} (h : ∀ j, (hj : j < L.length) -> p L[j] = false) : idxB p L = -1 := by
 unfold idxB
 rw [if_neg]
 intro ha
 obtain ⟨x, hx, hp⟩ := List.any_eq_true.1 ha
 obtain ⟨i, hi, rfl⟩ := List.getElem_of_mem hx
 rw [h i hi] at hp
 cases hp
theorem idxB_any (p : ByteArray -> Bool) (L : List ByteArray) : decide (0 <= idxB p L) = L.any p := by
 unfold idxB
 cases h : L.any p <;> simp
def PredSays (w : World) (f : FuncId) (c : Value) (p : ByteArray -> Bool) : Prop := ∀ (w' : World) (x : NE), Below w.heap.size w w' -> Calls Tryd.prog f #[.agg #[.string x.name, .slice x.A x.n x.c], c] w' fun e w2 => e = .returned (.bool (p x.name)) /\ Below w'.heap.size w' w2
def ne (L : List NE) : List ByteArray := L.map NE.name
set_option maxHeartbeats 1000000 in
theorem indexSh_any {c : Value} {p : ByteArray -> Bool} (A : Option Addr) (len cap : Nat) (L : List NE) (w : World) (hcap : cap <= maxLen) (hl : len <= cap) (hA : NEsAt w A len L) (hp : PredSays w 38 c p) :
  Calls Tryd.prog 42 #[.slice A len cap, .func (.func 38) #[] #[c]] w fun e w' => e = .returned (.int .i64 (idxB p (ne L))) /\ Below w.heap.size w w' := by
 have hlen : len <= 9223372036854775807 := by unfold maxLen at hcap; omega
 have HA := Lib.hid hA
 have HP := Lib.hid hp
 clear hA hp
 go_enter Tryd.func42, Tryd.ntmps42
 go_wp2_with fail
 go_loopw [8] (fun i wr => ∃ k : Nat, k <= len /\ i = .int .i64 k /\ Below w.heap.size w wr /\ ∀ j, j < k -> (hj : j < (ne L).length) -> p (ne L)[j] = false) (fun i _ => len - (intOf i).toNat)
 case atStart => exact ⟨0, by omega, rfl, Below.refl _ _, fun j h => absurd h (by omega)⟩
 case round =>
  obtain ⟨k, hk, rfl, hb, hall⟩ := hrel
  have HALL := Lib.hid hall
  have HB := Lib.hid hb
  clear hall hb
  by_cases hlt : k < len
  ·
   obtain ⟨b, o, rfl, hbw, hrow⟩ := HA.out.at_ (by omega)
   have hks : k < L.length := by rw [HA.out.size]; exact hlt
   have hkn : k < (ne L).length := by simpa [ne] using hks
   have hnk : (ne L)[k] = L[k].name := by simp [ne]
   have c0 : wr.cell? ⟨b, o + k * 2, none⟩ = some (.string L[k].name) := (HB.out.cell (p := ⟨b, o + k * 2, none⟩) hbw).trans (hrow k hks).1
   have c1 : wr.cell? ⟨b, o + k * 2 + 1, none⟩ = some (.slice L[k].A L[k].n L[k].c) := (HB.out.cell (p := ⟨b, o + k * 2 + 1, none⟩) hbw).trans (hrow k hks).2
   have HNK := Lib.hid hnk
   clear hrow hnk
   have hsz := HB.out.size
   have KP := Lib.hid (HP.out wr L[k] HB.out)
   cases he : p L[k].name
   all_goals
    have HE := Lib.hid he
    rw [he] at KP
    clear he
    go_wp2_with fail
    refine KP.out.mono ?_
    rintro e w1 ⟨rfl, hb1⟩
    have HB1 := Lib.hid (HB.out.trans (hb1.mono hsz))
    clear hb1
   ·
    go_wp2_with fail
    go_roundw
    case rel =>
     refine ⟨k + 1, by omega, by go_num, HB1.out, fun j hj hj' => ?_⟩
     by_cases hjk : j = k
     ·
      subst hjk; rw [HNK.out]; exact HE.out
     exact HALL.out j (by omega) hj'
    case measure => simp [intOf]; omega
   go_wp2_with fail
   go_ret
   exact ⟨ret_i (idxB_at hkn (by rw [HNK.out]; exact HE.out) HALL.out).symm, HB1.out⟩
  obtain rfl : k = len := by omega
  go_wp2_with fail
  go_ret
  exact ⟨ret_i (idxB_no (fun j hj => HALL.out j (by rw [<- HA.out.size]; simpa [ne] using hj) hj)).symm, HB.out⟩
set_option maxHeartbeats 1000000 in
theorem containsSh_any {c : Value} {p : ByteArray -> Bool} (A : Option Addr) (len cap : Nat) (L : List NE) (w : World) (hcap : cap <= maxLen) (hl : len <= cap) (hA : NEsAt w A len L) (hp : PredSays w 38 c p) :
  Calls Tryd.prog 33 #[.slice A len cap, .func (.func 38) #[] #[c]] w fun e w' => e = .returned (.bool ((ne L).any p)) /\ Below w.heap.size w w' := by
 go_enter Tryd.func33, Tryd.ntmps33
 go_wp2_with fail
 refine (indexSh_any A len cap L _ hcap hl hA hp).mono ?_
 rintro e w1 ⟨rfl, hb1⟩
 have HB := Lib.hid hb1
 clear hb1
 go_wp2_with fail
 go_ret
 exact ⟨zp (idxB_any p (ne L)), HB.out⟩
set_option maxHeartbeats 1000000 in
theorem indexUg_any {c : Value} {p : ByteArray -> Bool} (A : Option Addr) (len cap : Nat) (L : List NE) (w : World) (hcap : cap <= maxLen) (hl : len <= cap) (hA : NEsAt w A len L) (hp : PredSays w 70 c p) :
  Calls Tryd.prog 42 #[.slice A len cap, .func (.func 70) #[] #[c]] w fun e w' => e = .returned (.int .i64 (idxB p (ne L))) /\ Below w.heap.size w w' := by
 have hlen : len <= 9223372036854775807 := by unfold maxLen at hcap; omega
 have HA := Lib.hid hA
 have HP := Lib.hid hp
 clear hA hp
 go_enter Tryd.func42, Tryd.ntmps42
 go_wp2_with fail
 go_loopw [8] (fun i wr => ∃ k : Nat, k <= len /\ i = .int .i64 k /\ Below w.heap.size w wr /\ ∀ j, j < k -> (hj : j < (ne L).length) -> p (ne L)[j] = false) (fun i _ => len - (intOf i).toNat)
 case atStart => exact ⟨0, by omega, rfl, Below.refl _ _, fun j h => absurd h (by omega)⟩
 case round =>
  obtain ⟨k, hk, rfl, hb, hall⟩ := hrel
  have HALL := Lib.hid hall
  have HB := Lib.hid hb
  clear hall hb
  by_cases hlt : k < len
  ·
   obtain ⟨b, o, rfl, hbw, hrow⟩ := HA.out.at_ (by omega)
   have hks : k < L.length := by rw [HA.out.size]; exact hlt
   have hkn : k < (ne L).length := by simpa [ne] using hks
   have hnk : (ne L)[k] = L[k].name := by simp [ne]
   have c0 : wr.cell? ⟨b, o + k * 2, none⟩ = some (.string L[k].name) := (HB.out.cell (p := ⟨b, o + k * 2, none⟩) hbw).trans (hrow k hks).1
   have c1 : wr.cell? ⟨b, o + k * 2 + 1, none⟩ = some (.slice L[k].A L[k].n L[k].c) := (HB.out.cell (p := ⟨b, o + k * 2 + 1, none⟩) hbw).trans (hrow k hks).2
   have HNK := Lib.hid hnk
   clear hrow hnk
   have hsz := HB.out.size
   have KP := Lib.hid (HP.out wr L[k] HB.out)
   cases he : p L[k].name
   all_goals
    have HE := Lib.hid he
    rw [he] at KP
    clear he
    go_wp2_with fail
    refine KP.out.mono ?_
    rintro e w1 ⟨rfl, hb1⟩
    have HB1 := Lib.hid (HB.out.trans (hb1.mono hsz))
    clear hb1
   ·
    go_wp2_with fail
    go_roundw
    case rel =>
     refine ⟨k + 1, by omega, by go_num, HB1.out, fun j hj hj' => ?_⟩
     by_cases hjk : j = k
     ·
      subst hjk; rw [HNK.out]; exact HE.out
     exact HALL.out j (by omega) hj'
    case measure => simp [intOf]; omega
   go_wp2_with fail
   go_ret
   exact ⟨ret_i (idxB_at hkn (by rw [HNK.out]; exact HE.out) HALL.out).symm, HB1.out⟩
  obtain rfl : k = len := by omega
  go_wp2_with fail
  go_ret
  exact ⟨ret_i (idxB_no (fun j hj => HALL.out j (by rw [<- HA.out.size]; simpa [ne] using hj) hj)).symm, HB.out⟩
set_option maxHeartbeats 1000000 in
theorem indexUp_any {c : Value} {p : ByteArray -> Bool} (A : Option Addr) (len cap : Nat) (L : List NE) (w : World) (hcap : cap <= maxLen) (hl : len <= cap) (hA : NEsAt w A len L) (hp : PredSays w 72 c p) :
  Calls Tryd.prog 84 #[.slice A len cap, .func (.func 72) #[] #[c]] w fun e w' => e = .returned (.int .i64 (idxB p (ne L))) /\ Below w.heap.size w w' := by
 have hlen : len <= 9223372036854775807 := by unfold maxLen at hcap; omega
 have HA := Lib.hid hA
 have HP := Lib.hid hp
 clear hA hp
 go_enter Tryd.func84, Tryd.ntmps84
 go_wp2_with fail
 go_loopw [8] (fun i wr => ∃ k : Nat, k <= len /\ i = .int .i64 k /\ Below w.heap.size w wr /\ ∀ j, j < k -> (hj : j < (ne L).length) -> p (ne L)[j] = false) (fun i _ => len - (intOf i).toNat)
 case atStart => exact ⟨0, by omega, rfl, Below.refl _ _, fun j h => absurd h (by omega)⟩
 case round =>
  obtain ⟨k, hk, rfl, hb, hall⟩ := hrel
  have HALL := Lib.hid hall
  have HB := Lib.hid hb
  clear hall hb
  by_cases hlt : k < len
  ·
   obtain ⟨b, o, rfl, hbw, hrow⟩ := HA.out.at_ (by omega)
   have hks : k < L.length := by rw [HA.out.size]; exact hlt
   have hkn : k < (ne L).length := by simpa [ne] using hks
   have hnk : (ne L)[k] = L[k].name := by simp [ne]
   have c0 : wr.cell? ⟨b, o + k * 2, none⟩ = some (.string L[k].name) := (HB.out.cell (p := ⟨b, o + k * 2, none⟩) hbw).trans (hrow k hks).1
   have c1 : wr.cell? ⟨b, o + k * 2 + 1, none⟩ = some (.slice L[k].A L[k].n L[k].c) := (HB.out.cell (p := ⟨b, o + k * 2 + 1, none⟩) hbw).trans (hrow k hks).2
   have HNK := Lib.hid hnk
   clear hrow hnk
   have hsz := HB.out.size
   have KP := Lib.hid (HP.out wr L[k] HB.out)
   cases he : p L[k].name
   all_goals
    have HE := Lib.hid he
    rw [he] at KP
    clear he
    go_wp2_with fail
    refine KP.out.mono ?_
    rintro e w1 ⟨rfl, hb1⟩
    have HB1 := Lib.hid (HB.out.trans (hb1.mono hsz))
    clear hb1
   ·
    go_wp2_with fail
    go_roundw
    case rel =>
     refine ⟨k + 1, by omega, by go_num, HB1.out, fun j hj hj' => ?_⟩
     by_cases hjk : j = k
     ·
      subst hjk; rw [HNK.out]; exact HE.out
     exact HALL.out j (by omega) hj'
    case measure => simp [intOf]; omega
   go_wp2_with fail
   go_ret
   exact ⟨ret_i (idxB_at hkn (by rw [HNK.out]; exact HE.out) HALL.out).symm, HB1.out⟩
  obtain rfl : k = len := by omega
  go_wp2_with fail
  go_ret
  exact ⟨ret_i (idxB_no (fun j hj => HALL.out j (by rw [<- HA.out.size]; simpa [ne] using hj) hj)).symm, HB.out⟩
set_option maxHeartbeats 1000000 in
theorem containsUp_any {c : Value} {p : ByteArray -> Bool} (A : Option Addr) (len cap : Nat) (L : List NE) (w : World) (hcap : cap <= maxLen) (hl : len <= cap) (hA : NEsAt w A len L) (hp : PredSays w 72 c p) :
  Calls Tryd.prog 71 #[.slice A len cap, .func (.func 72) #[] #[c]] w fun e w' => e = .returned (.bool ((ne L).any p)) /\ Below w.heap.size w w' := by
 go_enter Tryd.func71, Tryd.ntmps71
 go_wp2_with fail
 refine (indexUp_any A len cap L _ hcap hl hA hp).mono ?_
 rintro e w1 ⟨rfl, hb1⟩
 have HB := Lib.hid hb1
 clear hb1
 go_wp2_with fail
 go_ret
 exact ⟨zp (idxB_any p (ne L)), HB.out⟩
theorem collect1_says {w : World} {b o : Nat} {n : ByteArray} (hc : w.cell? ⟨b, o, none⟩ = some (.string n)) (hb : b < w.heap.size) : PredSays w 38 (.pointer (some ⟨b, o, none⟩)) (fun x => x.toList == n.toList) := by
 intro w' x hbl
 have hc0 : w'.cell? ⟨b, o, none⟩ = some (.string n) := (hbl.cell (p := ⟨b, o, none⟩) hb).trans hc
 have hb' : b < w'.heap.size := Nat.lt_of_lt_of_le hb hbl.size
 have hc' : ∀ o1, (w'.alloc o1).cell? ⟨b, o, none⟩ = some (.string n) := fun o1 => (World.cell?_alloc_lt w' o1 ⟨b, o, none⟩ hb').trans hc0
 clear hbl
 go_enter Tryd.func38, Tryd.ntmps38
 go_wp2_with fail
 go_ret
 exact ⟨rfl, (Below.refl _ _).alloc (Nat.le_refl _) _⟩
end Go.Proofs.YtjmeodadkjcmmaaDoor
