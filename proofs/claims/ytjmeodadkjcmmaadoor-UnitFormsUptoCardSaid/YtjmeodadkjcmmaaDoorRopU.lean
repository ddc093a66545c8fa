import Derived.Test.YtjmeodadkjcmmaaDoorGRef
import Derived.BigQuiet
namespace Go.Proofs.YtjmeodadkjcmmaaDoor
open Go.RowKit Go.ChangeShapes Go.WideShapes Go.Deep Go.ChangeAt
set_option linter.unusedVariables false
set_option maxRecDepth 20000
def RopPost (w : World) (nm : ByteArray) (e : Ending) (w' : World) : Option (Int × Nat × List ByteArray) -> Prop
 | none => e = .returned (.tuple #[evz.agg, .int .i64 0]) /\ Below w.heap.size w w'
 | some (k, want, ns) => ∃ nA nc, e = .returned (.tuple #[.agg #[.int .i64 k, .int .i64 0, .int .i64 0, .string ⟨#[]⟩, .slice none 0 0, .string nm, .int .i64 0, .slice nA ns.length nc, .slice none 0 0], .int .i64 want]) /\ NmIn w' w.heap.size w'.heap.size nA nc ns /\ Below w.heap.size w w'
theorem opF_make {nm s : ByteArray} {fs : List ByteArray} {n : Nat} (h : s.toList = nm.toList) : opF nm fs s n = some (11, n, []) := by unfold opF; rw [if_pos h]
theorem opF_is {nm s : ByteArray} {fs : List ByteArray} {n : Nat} (h : s.toList ≠ nm.toList) (h2 : s.toList = nm.toList ++ [63]) : opF nm fs s n = some (12, 1, []) := by unfold opF; rw [if_neg h, if_pos h2]
theorem find_at {α : Type} {l : List α} {p : α -> Bool} {k : Nat} (hk : k < l.length) (h : p l[k] = true) (hb : ∀ j, j < k -> (hj : j < l.length) -> p l[j] = false) : l.find? p = some l[k] := by
 induction l generalizing k with
 | nil => simp at hk
 | cons a l ih =>
  cases k with
  | zero => simp only [List.getElem_cons_zero] at h ⊢; rw [List.find?_cons, h]
  | succ k =>
   have h0 := hb 0 (by omega) (by simp)
   simp only [List.getElem_cons_zero] at h0
   rw [List.find?_cons, h0]
   simp only [List.getElem_cons_succ] at h ⊢
   exact ih (by simpa using hk) h (fun j hj hj' => by
    have := hb (j + 1) (by omega) (by simpa using hj')
    simpa using this)
theorem findP_none {α : Type} {l : List α} {p : α -> Bool} (hb : ∀ j, (hj : j < l.length) -> p l[j] = false) : l.find? p = none := by
 rw [List.find?_eq_none]
 intro x hx
 obtain ⟨i, hi, rfl⟩ := List.getElem_of_mem hx
 rw [hb i hi]; simp
section
variable {nm s : ByteArray} {fs : List ByteArray} {n : Nat} (h1 : s.toList ≠ nm.toList) (h2 : s.toList ≠ nm.toList ++ [63])
include h1 h2
theorem opF_get {k : Nat} (hk : k < fs.length) (h : (s.toList == nm.toList ++ 45 :: fs[k].toList) = true) (hb : ∀ j, j < k -> (hj : j < fs.length) -> (s.toList == nm.toList ++ 45 :: fs[j].toList) = false) : opF nm fs s n = some (13, 1, [fs[k]]) := by
 unfold opF
 rw [if_neg h1, if_neg h2, find_at (p := fun f : ByteArray => s.toList == nm.toList ++ 45 :: f.toList) hk h hb]
theorem opF_put (hg : ∀ j, (hj : j < fs.length) -> (s.toList == nm.toList ++ 45 :: fs[j].toList) = false) {k : Nat} (hk : k < fs.length) (h : (s.toList == nm.toList ++ 45 :: (fs[k].toList ++ [33])) = true) (hb : ∀ j, j < k -> (hj : j < fs.length) -> (s.toList == nm.toList ++ 45 :: (fs[j].toList ++ [33])) = false) : opF nm fs s n = some (14, 2, [fs[k]]) := by
 unfold opF
 rw [if_neg h1, if_neg h2, findP_none (p := fun f : ByteArray => s.toList == nm.toList ++ 45 :: f.toList) hg, find_at (p := fun f : ByteArray => s.toList == nm.toList ++ 45 :: (f.toList ++ [33])) hk h hb]
theorem opF_no (hg : ∀ j, (hj : j < fs.length) -> (s.toList == nm.toList ++ 45 :: fs[j].toList) = false) (hb : ∀ j, (hj : j < fs.length) -> (s.toList == nm.toList ++ 45 :: (fs[j].toList ++ [33])) = false) : opF nm fs s n = none := by
 unfold opF
 rw [if_neg h1, if_neg h2, findP_none (p := fun f : ByteArray => s.toList == nm.toList ++ 45 :: f.toList) hg, findP_none (p := fun f : ByteArray => s.toList == nm.toList ++ 45 :: (f.toList ++ [33])) hb]
end
theorem rop_end {w wr : World} {g : Nat} (hg : w.heap.size <= g) (hb : Below w.heap.size w wr) (u0 u1 u2 u3 u4 u5 u6 u7 u8 : Value) (f : ByteArray) (t : Nat) {W : World} (hW : W = ((((((((((wr.setCell ⟨g, 0, none⟩ u0).setCell ⟨g, 1, none⟩ u1).setCell ⟨g, 2, none⟩ u2).setCell ⟨g, 3, none⟩ u3).setCell ⟨g, 4, none⟩ u4).setCell ⟨g, 5, none⟩ u5).setCell ⟨g, 6, none⟩ u6).setCell ⟨g, 7, none⟩ u7).setCell ⟨g, 8, none⟩ u8).alloc (.cells #[.string f] t)).drew.drew) :
  NmIn W w.heap.size W.heap.size (some ⟨wr.heap.size, 0, none⟩) 1 [f] /\ Below w.heap.size w W := by
 obtain ⟨w9, h9⟩ : ∃ w9, ((((((((wr.setCell ⟨g, 0, none⟩ u0).setCell ⟨g, 1, none⟩ u1).setCell ⟨g, 2, none⟩ u2).setCell ⟨g, 3, none⟩ u3).setCell ⟨g, 4, none⟩ u4).setCell ⟨g, 5, none⟩ u5).setCell ⟨g, 6, none⟩ u6).setCell ⟨g, 7, none⟩ u7).setCell ⟨g, 8, none⟩ u8 = w9 := ⟨_, rfl⟩
 have hb9 : Below w.heap.size w w9 := by
  rw [<- h9]
  exact ((((((((hb.setCell hg u0).setCell hg u1).setCell hg u2).setCell hg u3).setCell hg u4).setCell hg u5).setCell hg u6).setCell hg u7).setCell hg u8
 have hs9 : w9.heap.size = wr.heap.size := by rw [<- h9]; simp
 rw [h9] at hW
 have hc : W.cell? ⟨wr.heap.size, 0, none⟩ = some (.string f) := by
  rw [hW, <- hs9]
  exact za _ _ _ 0
 have hz : W.heap.size = wr.heap.size + 1 := by rw [hW]; simp [hs9]
 have := hb.size
 refine ⟨⟨by simp, by unfold maxLen; omega, fun _ => ⟨wr.heap.size, 0, rfl, hb.size, by omega, by omega, fun i hi => ?_⟩⟩, ?_⟩
 ·
  obtain rfl : i = 0 := by simpa using hi
  exact hc
 rw [hW]
 exact ((hb9.alloc hb9.size _).drew).drew
theorem zg {w wr : World} {g : Nat} (hg : w.heap.size <= g) (hb : Below w.heap.size w wr) (u0 u1 u2 u3 u4 u5 u6 u7 u8 : Value) : Below w.heap.size w (((((((((wr.setCell ⟨g, 0, none⟩ u0).setCell ⟨g, 1, none⟩ u1).setCell ⟨g, 2, none⟩ u2).setCell ⟨g, 3, none⟩ u3).setCell ⟨g, 4, none⟩ u4).setCell ⟨g, 5, none⟩ u5).setCell ⟨g, 6, none⟩ u6).setCell ⟨g, 7, none⟩ u7).setCell ⟨g, 8, none⟩ u8) :=
 ((((((((hb.setCell hg u0).setCell hg u1).setCell hg u2).setCell hg u3).setCell hg u4).setCell hg u5).setCell hg u6).setCell hg u7).setCell hg u8
theorem toList_app (a b : ByteArray) : (a ++ b).toList = a.toList ++ b.toList := by
 rw [ByteArray.toList_eq, ByteArray.toList_eq, ByteArray.toList_eq]
 simp
set_option maxHeartbeats 4000000 in
theorem recordOp_any (w : World) (nm : ByteArray) (A : Option Addr) (len cap : Nat) (fs : List ByteArray) (hA : ShapeAt w [.string nm, .slice A len cap] nm A len cap fs) (hnm : nm.size <= 16) (hfs : ∀ f ∈ fs, f.size <= 16) (s : ByteArray) (hs : s.size <= maxLen) (n : Nat) :
  Calls Tryd.prog 56 #[.agg #[.string nm, .slice A len cap], .string s, .int .i64 n] w (fun e w' => RopPost w nm e w' (opF nm fs s n)) := by
 have HA := Lib.hid hA
 have HFS := Lib.hid hfs
 have hlen : fs.length = len := hA.strs.size
 have HLEN := Lib.hid hlen
 have hle := hA.le
 have hcm := hA.cap_
 unfold maxLen at hcm
 have hl0 : len <= 9223372036854775807 := by omega
 obtain ⟨r, hr⟩ : ∃ r, opF nm fs s n = r := ⟨_, rfl⟩
 have HR := Lib.hid hr
 rw [hr]
 have hn1 : ¬ 9223372036854775807 < nm.size + 1 := by omega
 obtain ⟨w2, hw2⟩ : ∃ w2, w2 = ((w.alloc (.cells #[.string nm, .slice A len cap] 53)).alloc (.cells #[.int .i64 0, .int .i64 0, .int .i64 0, .string ⟨#[]⟩, .slice none 0 0, .string ⟨#[]⟩, .int .i64 0, .slice none 0 0, .slice none 0 0] 63)) := ⟨_, rfl⟩
 have hb2 : Below w.heap.size w w2 := by rw [hw2]; exact (((Below.refl _ _).alloc (Nat.le_refl _) _).alloc (by simp) _)
 have hs2 : w2.heap.size = w.heap.size + 2 := by rw [hw2]; simp
 have z : (w.alloc (.cells #[.string nm, .slice A len cap] 53)).heap.size = w.heap.size + 1 := by simp
 have q0 : w2.cell? ⟨w.heap.size, 0, none⟩ = some (.string nm) := by rw [hw2]; exact (World.cell?_alloc_lt _ _ ⟨w.heap.size, 0, none⟩ (by simp)).trans (za _ _ _ 0)
 have q1 : w2.cell? ⟨w.heap.size, 1, none⟩ = some (.slice A len cap) := by rw [hw2]; exact (World.cell?_alloc_lt _ _ ⟨w.heap.size, 1, none⟩ (by simp)).trans (za _ _ _ 1)
 have g0 : ∀ j, w2.cell? ⟨w.heap.size + 1, j, none⟩ = (#[.int .i64 0, .int .i64 0, .int .i64 0, .string ⟨#[]⟩, .slice none 0 0, .string ⟨#[]⟩, .int .i64 0, .slice none 0 0, .slice none 0 0] : Array Value)[j]? := fun j => by rw [hw2, <- z]; exact za _ _ _ j
 have f0 : ∀ j, w2.frozen? ⟨w.heap.size + 1, j, none⟩ = false := fun j => by rw [hw2, <- z]; simp
 have HB2 := Lib.hid hb2
 have HS2 := Lib.hid hs2
 have HQ := Lib.hid (And.intro q0 (And.intro q1 (And.intro g0 f0)))
 have HST := Lib.hid (hA.strs.below hb2)
 clear hA hfs hr hb2 hs2 q0 q1 g0 f0 hlen z
 by_cases h1 : s.toList = nm.toList
 ·
  obtain rfl : r = some (11, n, []) := by rw [<- HR.out]; exact opF_make h1
  have h1b : (s.toList == nm.toList) = true := by simpa using h1
  clear h1 hw2
  go_enter Tryd.func56, Tryd.ntmps56
  go_wp2_with fail
  exact bodyPost_ret (v := .tuple #[.agg #[.int .i64 11, .int .i64 0, .int .i64 0, .string ⟨#[]⟩, .slice none 0 0, .string nm, .int .i64 0, .slice none 0 0, .slice none 0 0], .int .i64 n]) (by simp [results, Tryd.results56, go_sem]) rfl ⟨none, 0, rfl, NmIn.nil _ _ _, (((Below.refl _ _).alloc (Nat.le_refl _) _).alloc (by simp) _)⟩
 have h1b : (s.toList == nm.toList) = false := by simpa using h1
 by_cases h2 : s.toList = nm.toList ++ [63]
 ·
  obtain rfl : r = some (12, 1, []) := by rw [<- HR.out]; exact opF_is h1 h2
  have h2b : (s.toList == (nm ++ ⟨#[63]⟩ : ByteArray).toList) = true := by rw [toList_app, h2]; simp
  clear h1 h2 hw2
  go_enter Tryd.func56, Tryd.ntmps56
  go_wp2_with fail
  exact bodyPost_ret (v := .tuple #[.agg #[.int .i64 12, .int .i64 0, .int .i64 0, .string ⟨#[]⟩, .slice none 0 0, .string nm, .int .i64 0, .slice none 0 0, .slice none 0 0], .int .i64 1]) (by simp [results, Tryd.results56, go_sem]) rfl ⟨none, 0, rfl, NmIn.nil _ _ _, (((Below.refl _ _).alloc (Nat.le_refl _) _).alloc (by simp) _)⟩
 have h2b : (s.toList == (nm ++ ⟨#[63]⟩ : ByteArray).toList) = false := by rw [toList_app]; simpa using h2
 have H12 := Lib.hid (And.intro h1 h2)
 clear h1 h2
 go_enter Tryd.func56, Tryd.ntmps56
 go_upto_region 5 with fail
 rw [<- hw2]
 clear hw2
 go_wp2_with fail
 go_loopw [8] (fun i wr => ∃ k : Nat, k <= len /\ i = .int .i64 k /\ Below (w.heap.size + 2) w2 wr /\ ∀ j, j < k -> (hj : j < fs.length) -> (s.toList == nm.toList ++ 45 :: fs[j].toList) = false) (fun i _ => len - (intOf i).toNat)
 case atStart => exact ⟨0, by omega, rfl, Below.refl _ _, fun j h => absurd h (by omega)⟩
 case round =>
  obtain ⟨k, hk, rfl, hb, hall⟩ := hrel
  have HALL := Lib.hid hall
  have HB := Lib.hid hb
  have hs := hb.size
  have q0 : wr.cell? ⟨w.heap.size, 0, none⟩ = some (.string nm) := (hb.cell (p := ⟨w.heap.size, 0, none⟩) (by show w.heap.size < _; omega)).trans HQ.out.1
  have q1 : wr.cell? ⟨w.heap.size, 1, none⟩ = some (.slice A len cap) := (hb.cell (p := ⟨w.heap.size, 1, none⟩) (by show w.heap.size < _; omega)).trans HQ.out.2.1
  have R : ∀ j, wr.cell? ⟨w.heap.size + 1, j, none⟩ = (#[.int .i64 0, .int .i64 0, .int .i64 0, .string ⟨#[]⟩, .slice none 0 0, .string ⟨#[]⟩, .int .i64 0, .slice none 0 0, .slice none 0 0] : Array Value)[j]? := fun j => (hb.cell (p := ⟨w.heap.size + 1, j, none⟩) (by show w.heap.size + 1 < _; omega)).trans (HQ.out.2.2.1 j)
  have RF : ∀ j, wr.frozen? ⟨w.heap.size + 1, j, none⟩ = false := fun j => (hb.frozen (p := ⟨w.heap.size + 1, j, none⟩) (by show w.heap.size + 1 < _; omega)).trans (HQ.out.2.2.2 j)
  have hsr : w.heap.size + 2 <= wr.heap.size := by have := HS2.out; omega
  have HBW := Lib.hid (show Below w.heap.size w wr from HB2.out.trans (hb.mono (by omega)))
  have hk0 : (0 : Int) <= (k : Int) := Int.natCast_nonneg _
  clear hb hall
  by_cases hlt : k < len
  ·
   have hlt2 : (k : Int) < (len : Int) := by omega
   have hkf : k < fs.length := by rw [HLEN.out]; exact hlt
   obtain ⟨b, o, rfl, hbw, hrow⟩ := (HST.out.below (HB.out.mono (by have := HS2.out; omega) : Below w2.heap.size w2 wr)).at_ (by omega)
   have c0 : wr.cell? ⟨b, o + k, none⟩ = some (.string fs[k]) := hrow k hkf
   have hfz := HFS.out fs[k] (List.getElem_mem hkf)
   have hn2 : ¬ 9223372036854775807 < nm.size + 1 + fs[k].size := by omega
   have hn3 : ¬ 9223372036854775807 < nm.size + 1 + fs[k].size + 1 := by omega
   have hneB := World.new_ne wr _ c0
   have hneW : wr.heap.size ≠ w.heap.size := by omega
   have hneV : wr.heap.size ≠ w.heap.size + 1 := by omega
   have hltV : w.heap.size + 1 < wr.heap.size := by omega
   have hltW : w.heap.size < wr.heap.size := by omega
   have hltb : b < wr.heap.size := hbw
   clear hrow
   cases he : (s.toList == nm.toList ++ 45 :: fs[k].toList)
   ·
    have heb : (s.toList == (nm ++ ⟨#[45]⟩ ++ fs[k] : ByteArray).toList) = false := by rw [<- he]; congr 1; simp [toList_app]
    have HE := Lib.hid he
    clear he
    go_upto_region 8 with fail
    go_quiet (fail)
    go_wp2_with fail
    go_roundw
    case rel =>
     refine ⟨k + 1, by omega, by go_num, below_drewN HB.out _, fun j hj hj' => ?_⟩
     by_cases hjk : j = k
     ·
      subst hjk; exact HE.out
     exact HALL.out j (by omega) hj'
    case measure => simp [intOf]; omega
   have heb : (s.toList == (nm ++ ⟨#[45]⟩ ++ fs[k] : ByteArray).toList) = true := by rw [<- he]; congr 1; simp [toList_app]
   obtain rfl : r = some (13, 1, [fs[k]]) := by rw [<- HR.out]; exact opF_get H12.out.1 H12.out.2 hkf he HALL.out
   clear he
   go_upto_region 8 with fail
   go_region
   go_upto_region 9 with fail
   go_region
   go_wp2_with fail
   have HE := rop_end (g := w.heap.size + 1) (by omega) HBW.out (.int .i64 13) (.int .i64 0) (.int .i64 0) (.string ⟨#[]⟩) (.slice none 0 0) (.string nm) (.int .i64 0) (.slice (some ⟨wr.heap.size, 0, none⟩) 1 1) (.slice none 0 0) fs[k] 9 rfl
   exact bodyPost_ret (v := .tuple #[.agg #[.int .i64 13, .int .i64 0, .int .i64 0, .string ⟨#[]⟩, .slice none 0 0, .string nm, .int .i64 0, .slice (some ⟨wr.heap.size, 0, none⟩) 1 1, .slice none 0 0], .int .i64 1]) (by simp [results, Tryd.results56, go_sem, R, hltV]) rfl ⟨_, _, rfl, HE.1, HE.2⟩
  have hkl : k = len := by omega
  subst k
  have HG := Lib.hid (show ∀ j, (hj : j < fs.length) -> (s.toList == nm.toList ++ 45 :: fs[j].toList) = false from fun j hj => HALL.out j (by rw [<- HLEN.out]; exact hj) hj)
  have HBP := HB
  have hrp := hs
  clear HALL HB HBW
  go_wp2_with fail
  clear R RF q0 q1 hs hk0
  go_loopw [9] (fun i wr => ∃ k : Nat, k <= len /\ i = .int .i64 k /\ Below (w.heap.size + 2) w2 wr /\ ∀ j, j < k -> (hj : j < fs.length) -> (s.toList == nm.toList ++ 45 :: (fs[j].toList ++ [33])) = false) (fun i _ => len - (intOf i).toNat)
  case atStart => exact ⟨0, by omega, rfl, HBP.out, fun j h => absurd h (by omega)⟩
  case round =>
   obtain ⟨k, hk, rfl, hb, hall⟩ := hrel
   have HALL := Lib.hid hall
   have HB := Lib.hid hb
   have hs := hb.size
   have q0 : wr.cell? ⟨w.heap.size, 0, none⟩ = some (.string nm) := (hb.cell (p := ⟨w.heap.size, 0, none⟩) (by show w.heap.size < _; omega)).trans HQ.out.1
   have q1 : wr.cell? ⟨w.heap.size, 1, none⟩ = some (.slice A len cap) := (hb.cell (p := ⟨w.heap.size, 1, none⟩) (by show w.heap.size < _; omega)).trans HQ.out.2.1
   have R : ∀ j, wr.cell? ⟨w.heap.size + 1, j, none⟩ = (#[.int .i64 0, .int .i64 0, .int .i64 0, .string ⟨#[]⟩, .slice none 0 0, .string ⟨#[]⟩, .int .i64 0, .slice none 0 0, .slice none 0 0] : Array Value)[j]? := fun j => (hb.cell (p := ⟨w.heap.size + 1, j, none⟩) (by show w.heap.size + 1 < _; omega)).trans (HQ.out.2.2.1 j)
   have RF : ∀ j, wr.frozen? ⟨w.heap.size + 1, j, none⟩ = false := fun j => (hb.frozen (p := ⟨w.heap.size + 1, j, none⟩) (by show w.heap.size + 1 < _; omega)).trans (HQ.out.2.2.2 j)
   have hsr : w.heap.size + 2 <= wr.heap.size := by have := HS2.out; omega
   have HBW := Lib.hid (show Below w.heap.size w wr from HB2.out.trans (hb.mono (by omega)))
   have hk0 : (0 : Int) <= (k : Int) := Int.natCast_nonneg _
   clear hb hall
   by_cases hlt : k < len
   ·
    have hlt2 : (k : Int) < (len : Int) := by omega
    have hkf : k < fs.length := by rw [HLEN.out]; exact hlt
    obtain ⟨b, o, rfl, hbw, hrow⟩ := (HST.out.below (HB.out.mono (by have := HS2.out; omega) : Below w2.heap.size w2 wr)).at_ (by omega)
    have c0 : wr.cell? ⟨b, o + k, none⟩ = some (.string fs[k]) := hrow k hkf
    have hfz := HFS.out fs[k] (List.getElem_mem hkf)
    have hn2 : ¬ 9223372036854775807 < nm.size + 1 + fs[k].size := by omega
    have hn3 : ¬ 9223372036854775807 < nm.size + 1 + fs[k].size + 1 := by omega
    have hneB := World.new_ne wr _ c0
    have hneW : wr.heap.size ≠ w.heap.size := by omega
    have hneV : wr.heap.size ≠ w.heap.size + 1 := by omega
    have hltV : w.heap.size + 1 < wr.heap.size := by omega
    have hltW : w.heap.size < wr.heap.size := by omega
    have hltb : b < wr.heap.size := hbw
    clear hrow
    cases he : (s.toList == nm.toList ++ 45 :: (fs[k].toList ++ [33]))
    ·
     have heb : (s.toList == (nm ++ ⟨#[45]⟩ ++ fs[k] ++ ⟨#[33]⟩ : ByteArray).toList) = false := by rw [<- he]; congr 1; simp [toList_app]
     have HE := Lib.hid he
     clear he
     go_upto_region 13 with fail
     go_quiet (fail)
     go_wp2_with fail
     go_roundw
     case rel =>
      refine ⟨k + 1, by omega, by go_num, below_drewN HB.out _, fun j hj hj' => ?_⟩
      by_cases hjk : j = k
      ·
       subst hjk; exact HE.out
      exact HALL.out j (by omega) hj'
     case measure => simp [intOf]; omega
    have heb : (s.toList == (nm ++ ⟨#[45]⟩ ++ fs[k] ++ ⟨#[33]⟩ : ByteArray).toList) = true := by rw [<- he]; congr 1; simp [toList_app]
    obtain rfl : r = some (14, 2, [fs[k]]) := by rw [<- HR.out]; exact opF_put H12.out.1 H12.out.2 HG.out hkf he HALL.out
    clear he
    go_upto_region 13 with fail
    go_region
    go_upto_region 14 with fail
    go_region
    go_wp2_with fail
    have HE := rop_end (g := w.heap.size + 1) (by omega) HBW.out (.int .i64 14) (.int .i64 0) (.int .i64 0) (.string ⟨#[]⟩) (.slice none 0 0) (.string nm) (.int .i64 0) (.slice (some ⟨wr.heap.size, 0, none⟩) 1 1) (.slice none 0 0) fs[k] 9 rfl
    exact bodyPost_ret (v := .tuple #[.agg #[.int .i64 14, .int .i64 0, .int .i64 0, .string ⟨#[]⟩, .slice none 0 0, .string nm, .int .i64 0, .slice (some ⟨wr.heap.size, 0, none⟩) 1 1, .slice none 0 0], .int .i64 2]) (by simp [results, Tryd.results56, go_sem, R, hltV]) rfl ⟨_, _, rfl, HE.1, HE.2⟩
   have hkl : k = len := by omega
   subst k
   obtain rfl : r = none := by rw [<- HR.out]; exact opF_no H12.out.1 H12.out.2 HG.out (fun j hj => HALL.out j (by rw [<- HLEN.out]; exact hj) hj)
   clear HALL
   go_wp2_with fail
   exact bodyPost_ret (v := .tuple #[evz.agg, .int .i64 0]) (by simp [results, Tryd.results56, go_sem, evz, EV.agg, R]) rfl ⟨rfl, zg (by omega) HBW.out _ _ _ _ _ _ _ _ _⟩
end Go.Proofs.YtjmeodadkjcmmaaDoor
