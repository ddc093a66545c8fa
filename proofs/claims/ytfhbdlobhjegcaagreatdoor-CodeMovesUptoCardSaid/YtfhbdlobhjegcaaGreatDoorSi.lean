import Derived.Test.YtfhbdlobhjegcaaGreatDoorGSg
import Derived.Test.YtfhbdlobhjegcaaGreatDoorGQno
namespace Go.Proofs.YtfhbdlobhjegcaaGreatDoor
open Go.RowKit Go.ChangeShapes Go.WideShapes Go.Deep Go.ChangeAt
set_option linter.unusedVariables false
set_option maxRecDepth 20000
theorem HV.where_ok {hp : Hp} {lo hi : Nat} {x : Wd} {v : Vl} (h : HV hp lo hi x v) (hk : x.k = 5) : ∃ (i : Nat) (y : Wd), x.n = i /\ (flat hp)[i]? = some y /\ y.k ≠ 10 := by
 cases h with
 | int n => simp at hk
 | bool n => simp at hk
 | nil => simp at hk
 | sym s => simp at hk
 | pair i h1 h2 h3 a b ha hb => exact ⟨2 + 3 * i, pairW, by simp only [pAt]; omega, (flat_at hp i h1).1, by decide⟩
theorem HV.at_pair {hp : Hp} {lo hi : Nat} {x : Wd} {a b : Vl} (h : HV hp lo hi x (.pair a b)) : ∃ (d : Nat) (y z : Wd), x = ⟨5, d, ⟨#[]⟩⟩ /\ (flat hp)[d]? = some pairW /\ (flat hp)[d + 1]? = some y /\ (flat hp)[d + 2]? = some z /\ HV hp lo hi y a /\ HV hp lo hi z b := by
 cases h with
 | pair i h1 h2 h3 _ _ ha hb =>
  obtain ⟨q0, q1, q2⟩ := flat_at hp i h1
  exact ⟨2 + 3 * i, _, _, by simp only [pAt, Wd.mk.injEq, and_true, true_and]; omega, q0, q1, q2, ha, hb⟩
theorem HV.atm {hp : Hp} {lo hi : Nat} {k n : Int} {s : ByteArray} {v : Vl} (h : HV hp lo hi ⟨k, n, s⟩ v) (h1 : isP v = false) (h2 : isN v = false) : (k == 3) = false /\ (k != 5) = true := by
 cases h with
 | int n => exact ⟨rfl, rfl⟩
 | bool n => exact ⟨rfl, rfl⟩
 | nil => exact absurd h2 (by decide)
 | sym s => exact ⟨rfl, rfl⟩
 | pair => exact absurd h1 (by simp [isP])
def SiPost (w : World) (S : ByteArray) (e : Ending) (w' : World) : Prop := e = .returned (.tuple #[.string S, .bool true]) /\ Below w.heap.size w w'
def SiSays (v : Vl) : Prop := ∀ (w : World) (FF : Option Addr) (fc : Nat) (A : Option Addr) (len cap : Nat) (hp : Hp) (lo hi : Nat) (k n : Int) (s : ByteArray) (lev : Nat), HpAt w A len cap hp -> HV hp lo hi ⟨k, n, s⟩ v -> VlOk v -> lev <= 11 -> szV v <= 1073741824 →
  Calls Tryz.prog 28 #[.agg #[.slice FF 2 fc, .slice none 0 0, .slice none 0 0, .slice A len cap, .int .i64 60000], .agg #[.int .i64 k, .int .i64 n, .string s], .int .i64 lev] w (SiPost w (shV decB v lev none))
structure SiBox (w : World) (FF : Option Addr) (fc : Nat) (A : Option Addr) (len cap : Nat) (wr : World) (k n : Int) (s : ByteArray) : Prop where
 below : Below w.heap.size w wr
 lt : w.heap.size + 1 < wr.heap.size
 bw : wr.cell? ⟨w.heap.size, 0, none⟩ = some (.slice FF 2 fc) /\ wr.cell? ⟨w.heap.size, 1, none⟩ = some (.slice none 0 0) /\ wr.cell? ⟨w.heap.size, 2, none⟩ = some (.slice none 0 0) /\ wr.cell? ⟨w.heap.size, 3, none⟩ = some (.slice A len cap) /\ wr.cell? ⟨w.heap.size, 4, none⟩ = some (.int .i64 60000)
 xr : wr.cell? ⟨w.heap.size + 1, 0, none⟩ = some (.int .i64 k) /\ wr.cell? ⟨w.heap.size + 1, 1, none⟩ = some (.int .i64 n) /\ wr.cell? ⟨w.heap.size + 1, 2, none⟩ = some (.string s)
 fz : ∀ j, wr.frozen? ⟨w.heap.size + 1, j, none⟩ = false
section
variable {w : World} {FF : Option Addr} {fc : Nat} {A : Option Addr} {len cap : Nat} {wr : World} {k n : Int} {s : ByteArray}
theorem SiBox.new (h : SiBox w FF fc A len cap wr k n s) {w' : World} (hb : Below wr.heap.size wr w') : SiBox w FF fc A len cap w' k n s := by
 have h0 : w.heap.size < wr.heap.size := by have := h.lt; omega
 obtain ⟨b0, b1, b2, b3, b4⟩ := h.bw
 obtain ⟨x0, x1, x2⟩ := h.xr
 exact ⟨h.below.trans (hb.mono h.below.size), Nat.lt_of_lt_of_le h.lt hb.size, ⟨(hb.cell (p := ⟨w.heap.size, 0, none⟩) h0).trans b0, (hb.cell (p := ⟨w.heap.size, 1, none⟩) h0).trans b1, (hb.cell (p := ⟨w.heap.size, 2, none⟩) h0).trans b2, (hb.cell (p := ⟨w.heap.size, 3, none⟩) h0).trans b3, (hb.cell (p := ⟨w.heap.size, 4, none⟩) h0).trans b4⟩,
  ⟨(hb.cell (p := ⟨w.heap.size + 1, 0, none⟩) h.lt).trans x0, (hb.cell (p := ⟨w.heap.size + 1, 1, none⟩) h.lt).trans x1, (hb.cell (p := ⟨w.heap.size + 1, 2, none⟩) h.lt).trans x2⟩, fun j => (hb.frozen (p := ⟨w.heap.size + 1, j, none⟩) h.lt).trans (h.fz j)⟩
theorem SiBox.put (h : SiBox w FF fc A len cap wr k n s) {k' n' : Int} {s' : ByteArray} {w' : World} (hw : ((wr.setCell ⟨w.heap.size + 1, 0, none⟩ (.int .i64 k')).setCell ⟨w.heap.size + 1, 1, none⟩ (.int .i64 n')).setCell ⟨w.heap.size + 1, 2, none⟩ (.string s') = w') : SiBox w FF fc A len cap w' k' n' s' := by
 obtain ⟨b0, b1, b2, b3, b4⟩ := h.bw
 obtain ⟨x0, x1, x2⟩ := h.xr
 have hg : wr.grownBy w' (some (w.heap.size + 1)) := by rw [<- hw]; exact grown_set3 _ _ _ _ _
 have hk : w'.heap[w.heap.size]? = wr.heap[w.heap.size]? := hg.block _ (by have := h.lt; omega) (fun e => by have := Option.some.inj e; omega)
 have kc : ∀ {j u}, wr.cell? ⟨w.heap.size, j, none⟩ = some u -> w'.cell? ⟨w.heap.size, j, none⟩ = some u := fun {j u} hu => (World.cell?_of_block (a := ⟨w.heap.size, j, none⟩) hk).trans hu
 exact ⟨zp h.below (Nat.le_succ _) hg, Nat.lt_of_lt_of_le h.lt hg.size, ⟨kc b0, kc b1, kc b2, kc b3, kc b4⟩, ⟨by rw [<- hw]; exact set3_0 x0, by rw [<- hw]; exact set3_1 x1, by rw [<- hw]; exact set3_2 x2⟩, fun j => by rw [<- hw]; simp only [World.frozen?_setCell]; exact h.fz j⟩
theorem siBox_start (w : World) (FF : Option Addr) (fc : Nat) (A : Option Addr) (len cap : Nat) (k n : Int) (s : ByteArray) : SiBox w FF fc A len cap ((w.alloc (.cells #[.slice FF 2 fc, .slice none 0 0, .slice none 0 0, .slice A len cap, .int .i64 60000] 46)).alloc (.cells #[.int .i64 k, .int .i64 n, .string s] 49)) k n s :=
 ⟨((Below.refl _ _).alloc (Nat.le_refl _) _).alloc (by simp) _, by simp, ⟨cell_first _ _ _ _ _ 0, cell_first _ _ _ _ _ 1, cell_first _ _ _ _ _ 2, cell_first _ _ _ _ _ 3, cell_first _ _ _ _ _ 4⟩, ⟨cell_second _ _ _ _ _ 0, cell_second _ _ _ _ _ 1, cell_second _ _ _ _ _ 2⟩, fun j => by
  rw [show w.heap.size + 1 = (w.alloc (.cells #[.slice FF 2 fc, .slice none 0 0, .slice none 0 0, .slice A len cap, .int .i64 60000] 46)).heap.size by simp]; exact ze _ _ _ _⟩
end
structure SiLp (w : World) (FF : Option Addr) (fc : Nat) (A : Option Addr) (len cap : Nat) (hp : Hp) (lo hi lev : Nat) (FIN : ByteArray) (wr : World) (a b : Vl) (k n : Int) (s : ByteArray) (j : Nat) (S : ByteArray) : Prop where
 le : j <= 50
 it : shIt decB a b lev j S = FIN
 ok : VlOk (.pair a b)
 bx : SiBox w FF fc A len cap wr k n s
 hv : HV hp lo hi ⟨k, n, s⟩ (.pair a b)
set_option maxHeartbeats 8000000 in
theorem si_int {m : Int} : SiSays (.int m) := fun w FF fc A len cap hp lo hi k n s lev hA hv hok hlev hsz => by
 have KW := Lib.hid (fun (W : World) (hW : Below w.heap.size w W) => where_any (hA.wds.below hW) ⟨k, n, s⟩ (fun hk => hv.where_ok hk))
 obtain ⟨wb, hwb⟩ : ∃ wb, (w.alloc (.cells #[.slice FF 2 fc, .slice none 0 0, .slice none 0 0, .slice A len cap, .int .i64 60000] 46)).alloc (.cells #[.int .i64 k, .int .i64 n, .string s] 49) = wb := ⟨_, rfl⟩
 have hx := siBox_start w FF fc A len cap k n s
 rw [hwb] at hx
 obtain ⟨b0, b1, b2, b3, b4⟩ := hx.bw
 obtain ⟨p0, p1, p2⟩ := hx.xr
 have HWB := Lib.hid hwb
 have HX := Lib.hid hx
 clear hwb hx
 cases hv
 have HD := Lib.hid (fun W => dec_any m (by unfold VlOk big at hok; omega) (by unfold VlOk big at hok; omega) W)
 clear hok hA
 go_enter Tryz.func28, Tryz.ntmps28
 go_upto_region 1 with fail
 rw [HWB.out]
 go_wp2_with fail
 refine (KW.out wb HX.out.below).mono ?_
 rintro e w1 ⟨rfl, hb1⟩
 have hx1 := HX.out.new hb1
 obtain ⟨p0', p1', p2'⟩ := hx1.xr
 have f0 := hx1.fz 0
 have f1 := hx1.fz 1
 have f2 := hx1.fz 2
 have HX1 := Lib.hid hx1
 clear hb1 hx1 p0 p1 p2 b0 b1 b2 b3 b4
 go_upto_region 3 with fail
 obtain ⟨w2, hw2⟩ : ∃ w2, ((w1.setCell ⟨w.heap.size + 1, 0, none⟩ (.int .i64 1)).setCell ⟨w.heap.size + 1, 1, none⟩ (.int .i64 m)).setCell ⟨w.heap.size + 1, 2, none⟩ (.string ⟨#[]⟩) = w2 := ⟨_, rfl⟩
 have HX2 := Lib.hid (HX1.out.put hw2)
 obtain ⟨b0, b1, b2, b3, b4⟩ := HX2.out.bw
 obtain ⟨p0, p1, p2⟩ := HX2.out.xr
 rw [hw2]
 have HB2 := Lib.hid HX2.out.below
 clear hw2 p0' p1' p2' f0 f1 f2
 go_wp2_with fail
 refine (HD.out _).mono ?_
 rintro e w3 ⟨rfl, hb⟩
 have HB := Lib.hid (HB2.out.trans (hb.mono HB2.out.size))
 clear hb
 go_wp2_with fail
 refine bodyPost_ret (v := .tuple #[.string ⟨(Lib.itoa m).toArray⟩, .bool true]) (by simp [results, Tryz.results28, go_sem]) rfl ?_
 exact ⟨rfl, HB.out⟩
set_option maxHeartbeats 8000000 in
theorem si_bool {m : Int} : SiSays (.bool m) := fun w FF fc A len cap hp lo hi k n s lev hA hv hok hlev hsz => by
 have KW := Lib.hid (fun (W : World) (hW : Below w.heap.size w W) => where_any (hA.wds.below hW) ⟨k, n, s⟩ (fun hk => hv.where_ok hk))
 obtain ⟨wb, hwb⟩ : ∃ wb, (w.alloc (.cells #[.slice FF 2 fc, .slice none 0 0, .slice none 0 0, .slice A len cap, .int .i64 60000] 46)).alloc (.cells #[.int .i64 k, .int .i64 n, .string s] 49) = wb := ⟨_, rfl⟩
 have hx := siBox_start w FF fc A len cap k n s
 rw [hwb] at hx
 obtain ⟨b0, b1, b2, b3, b4⟩ := hx.bw
 obtain ⟨p0, p1, p2⟩ := hx.xr
 have HWB := Lib.hid hwb
 have HX := Lib.hid hx
 clear hwb hx
 cases hv
 clear hA
 by_cases hm : m = 1
 ·
  subst hm
  go_enter Tryz.func28, Tryz.ntmps28
  go_upto_region 1 with fail
  rw [HWB.out]
  go_wp2_with fail
  refine (KW.out wb HX.out.below).mono ?_
  rintro e w1 ⟨rfl, hb1⟩
  have hx1 := HX.out.new hb1
  obtain ⟨p0', p1', p2'⟩ := hx1.xr
  have f0 := hx1.fz 0
  have f1 := hx1.fz 1
  have f2 := hx1.fz 2
  have HX1 := Lib.hid hx1
  clear hb1 hx1 p0 p1 p2 b0 b1 b2 b3 b4
  go_upto_region 3 with fail
  obtain ⟨w2, hw2⟩ : ∃ w2, ((w1.setCell ⟨w.heap.size + 1, 0, none⟩ (.int .i64 2)).setCell ⟨w.heap.size + 1, 1, none⟩ (.int .i64 1)).setCell ⟨w.heap.size + 1, 2, none⟩ (.string ⟨#[]⟩) = w2 := ⟨_, rfl⟩
  have HX2 := Lib.hid (HX1.out.put hw2)
  obtain ⟨b0, b1, b2, b3, b4⟩ := HX2.out.bw
  obtain ⟨p0, p1, p2⟩ := HX2.out.xr
  rw [hw2]
  have HB2 := Lib.hid HX2.out.below
  clear hw2 p0' p1' p2' f0 f1 f2
  go_wp2_with fail
  refine bodyPost_ret (v := .tuple #[.string ⟨#[35, 116]⟩, .bool true]) (by simp [results, Tryz.results28, go_sem]) rfl ?_
  exact ⟨rfl, HB2.out⟩
 have hmb : (m == 1) = false := by simpa using hm
 have hs : shV decB (.bool m) lev none = ⟨#[35, 102]⟩ := by show (if m = 1 then _ else _) = _; rw [if_neg hm]
 rw [hs]
 clear hs hm
 go_enter Tryz.func28, Tryz.ntmps28
 go_upto_region 1 with fail
 rw [HWB.out]
 go_wp2_with fail
 refine (KW.out wb HX.out.below).mono ?_
 rintro e w1 ⟨rfl, hb1⟩
 have hx1 := HX.out.new hb1
 obtain ⟨p0', p1', p2'⟩ := hx1.xr
 have f0 := hx1.fz 0
 have f1 := hx1.fz 1
 have f2 := hx1.fz 2
 have HX1 := Lib.hid hx1
 clear hb1 hx1 p0 p1 p2 b0 b1 b2 b3 b4
 go_upto_region 3 with fail
 obtain ⟨w2, hw2⟩ : ∃ w2, ((w1.setCell ⟨w.heap.size + 1, 0, none⟩ (.int .i64 2)).setCell ⟨w.heap.size + 1, 1, none⟩ (.int .i64 m)).setCell ⟨w.heap.size + 1, 2, none⟩ (.string ⟨#[]⟩) = w2 := ⟨_, rfl⟩
 have HX2 := Lib.hid (HX1.out.put hw2)
 obtain ⟨b0, b1, b2, b3, b4⟩ := HX2.out.bw
 obtain ⟨p0, p1, p2⟩ := HX2.out.xr
 rw [hw2]
 have HB2 := Lib.hid HX2.out.below
 clear hw2 p0' p1' p2' f0 f1 f2
 go_wp2_with fail
 refine bodyPost_ret (v := .tuple #[.string ⟨#[35, 102]⟩, .bool true]) (by simp [results, Tryz.results28, go_sem]) rfl ?_
 exact ⟨rfl, HB2.out⟩
set_option maxHeartbeats 8000000 in
theorem si_nil : SiSays .nil := fun w FF fc A len cap hp lo hi k n s lev hA hv hok hlev hsz => by
 have KW := Lib.hid (fun (W : World) (hW : Below w.heap.size w W) => where_any (hA.wds.below hW) ⟨k, n, s⟩ (fun hk => hv.where_ok hk))
 obtain ⟨wb, hwb⟩ : ∃ wb, (w.alloc (.cells #[.slice FF 2 fc, .slice none 0 0, .slice none 0 0, .slice A len cap, .int .i64 60000] 46)).alloc (.cells #[.int .i64 k, .int .i64 n, .string s] 49) = wb := ⟨_, rfl⟩
 have hx := siBox_start w FF fc A len cap k n s
 rw [hwb] at hx
 obtain ⟨b0, b1, b2, b3, b4⟩ := hx.bw
 obtain ⟨p0, p1, p2⟩ := hx.xr
 have HWB := Lib.hid hwb
 have HX := Lib.hid hx
 clear hwb hx
 cases hv
 clear hA
 go_enter Tryz.func28, Tryz.ntmps28
 go_upto_region 1 with fail
 rw [HWB.out]
 go_wp2_with fail
 refine (KW.out wb HX.out.below).mono ?_
 rintro e w1 ⟨rfl, hb1⟩
 have hx1 := HX.out.new hb1
 obtain ⟨p0', p1', p2'⟩ := hx1.xr
 have f0 := hx1.fz 0
 have f1 := hx1.fz 1
 have f2 := hx1.fz 2
 have HX1 := Lib.hid hx1
 clear hb1 hx1 p0 p1 p2 b0 b1 b2 b3 b4
 go_upto_region 3 with fail
 obtain ⟨w2, hw2⟩ : ∃ w2, ((w1.setCell ⟨w.heap.size + 1, 0, none⟩ (.int .i64 3)).setCell ⟨w.heap.size + 1, 1, none⟩ (.int .i64 0)).setCell ⟨w.heap.size + 1, 2, none⟩ (.string ⟨#[]⟩) = w2 := ⟨_, rfl⟩
 have HX2 := Lib.hid (HX1.out.put hw2)
 obtain ⟨b0, b1, b2, b3, b4⟩ := HX2.out.bw
 obtain ⟨p0, p1, p2⟩ := HX2.out.xr
 rw [hw2]
 have HB2 := Lib.hid HX2.out.below
 clear hw2 p0' p1' p2' f0 f1 f2
 go_wp2_with fail
 refine bodyPost_ret (v := .tuple #[.string ⟨#[40, 41]⟩, .bool true]) (by simp [results, Tryz.results28, go_sem]) rfl ?_
 exact ⟨rfl, HB2.out⟩
set_option maxHeartbeats 8000000 in
theorem si_sym {m : ByteArray} : SiSays (.sym m) := fun w FF fc A len cap hp lo hi k n s lev hA hv hok hlev hsz => by
 have KW := Lib.hid (fun (W : World) (hW : Below w.heap.size w W) => where_any (hA.wds.below hW) ⟨k, n, s⟩ (fun hk => hv.where_ok hk))
 obtain ⟨wb, hwb⟩ : ∃ wb, (w.alloc (.cells #[.slice FF 2 fc, .slice none 0 0, .slice none 0 0, .slice A len cap, .int .i64 60000] 46)).alloc (.cells #[.int .i64 k, .int .i64 n, .string s] 49) = wb := ⟨_, rfl⟩
 have hx := siBox_start w FF fc A len cap k n s
 rw [hwb] at hx
 obtain ⟨b0, b1, b2, b3, b4⟩ := hx.bw
 obtain ⟨p0, p1, p2⟩ := hx.xr
 have HWB := Lib.hid hwb
 have HX := Lib.hid hx
 clear hwb hx
 cases hv
 clear hA hok
 go_enter Tryz.func28, Tryz.ntmps28
 go_upto_region 1 with fail
 rw [HWB.out]
 go_wp2_with fail
 refine (KW.out wb HX.out.below).mono ?_
 rintro e w1 ⟨rfl, hb1⟩
 have hx1 := HX.out.new hb1
 obtain ⟨p0', p1', p2'⟩ := hx1.xr
 have f0 := hx1.fz 0
 have f1 := hx1.fz 1
 have f2 := hx1.fz 2
 have HX1 := Lib.hid hx1
 clear hb1 hx1 p0 p1 p2 b0 b1 b2 b3 b4
 go_upto_region 3 with fail
 obtain ⟨w2, hw2⟩ : ∃ w2, ((w1.setCell ⟨w.heap.size + 1, 0, none⟩ (.int .i64 4)).setCell ⟨w.heap.size + 1, 1, none⟩ (.int .i64 0)).setCell ⟨w.heap.size + 1, 2, none⟩ (.string m) = w2 := ⟨_, rfl⟩
 have HX2 := Lib.hid (HX1.out.put hw2)
 obtain ⟨b0, b1, b2, b3, b4⟩ := HX2.out.bw
 obtain ⟨p0, p1, p2⟩ := HX2.out.xr
 rw [hw2]
 have HB2 := Lib.hid HX2.out.below
 clear hw2 p0' p1' p2' f0 f1 f2
 go_wp2_with fail
 refine bodyPost_ret (v := .tuple #[.string m, .bool true]) (by simp [results, Tryz.results28, go_sem]) rfl ?_
 exact ⟨rfl, HB2.out⟩
set_option maxHeartbeats 8000000 in
theorem si_pair {a b : Vl} (ih : ∀ u, szV u < szV (.pair a b) -> SiSays u) : SiSays (.pair a b) := fun w FF fc A len cap hp lo hi k n s lev hA hv hok hlev hsz => by
 have KW := Lib.hid (fun (W : World) (hW : Below w.heap.size w W) => where_any (hA.wds.below hW) ⟨k, n, s⟩ (fun hk => hv.where_ok hk))
 obtain ⟨wb, hwb⟩ : ∃ wb, (w.alloc (.cells #[.slice FF 2 fc, .slice none 0 0, .slice none 0 0, .slice A len cap, .int .i64 60000] 46)).alloc (.cells #[.int .i64 k, .int .i64 n, .string s] 49) = wb := ⟨_, rfl⟩
 have hx := siBox_start w FF fc A len cap k n s
 rw [hwb] at hx
 obtain ⟨b0, b1, b2, b3, b4⟩ := hx.bw
 obtain ⟨p0, p1, p2⟩ := hx.xr
 have HWB := Lib.hid hwb
 have HX := Lib.hid hx
 clear hwb hx
 by_cases h10 : 10 < lev
 ·
  obtain ⟨d, y, z, hxd, _⟩ := hv.at_pair
  simp only [Wd.mk.injEq] at hxd
  obtain ⟨rfl, rfl, rfl⟩ := hxd
  clear hv ih
  have hl : (10 : Int) < (lev : Int) := by omega
  rw [shV_top, if_pos h10]
  clear h10 hok hA
  go_enter Tryz.func28, Tryz.ntmps28
  go_upto_region 1 with fail
  rw [HWB.out]
  go_wp2_with fail
  refine (KW.out wb HX.out.below).mono ?_
  rintro e w1 ⟨rfl, hb1⟩
  have hx1 := HX.out.new hb1
  obtain ⟨p0', p1', p2'⟩ := hx1.xr
  have f0 := hx1.fz 0
  have f1 := hx1.fz 1
  have f2 := hx1.fz 2
  have HX1 := Lib.hid hx1
  clear hb1 hx1 p0 p1 p2 b0 b1 b2 b3 b4
  go_upto_region 3 with fail
  obtain ⟨w2, hw2⟩ : ∃ w2, ((w1.setCell ⟨w.heap.size + 1, 0, none⟩ (.int .i64 5)).setCell ⟨w.heap.size + 1, 1, none⟩ (.int .i64 d)).setCell ⟨w.heap.size + 1, 2, none⟩ (.string ⟨#[]⟩) = w2 := ⟨_, rfl⟩
  have HX2 := Lib.hid (HX1.out.put hw2)
  obtain ⟨b0, b1, b2, b3, b4⟩ := HX2.out.bw
  obtain ⟨p0, p1, p2⟩ := HX2.out.xr
  rw [hw2]
  have HB2 := Lib.hid HX2.out.below
  clear hw2 p0' p1' p2' f0 f1 f2
  go_wp2_with fail
  refine bodyPost_ret (v := .tuple #[.string ⟨#[46, 46]⟩, .bool true]) (by simp [results, Tryz.results28, go_sem]) rfl ?_
  exact ⟨rfl, HB2.out⟩
 have hle : ¬ (10 : Int) < (lev : Int) := by omega
 obtain ⟨FIN, hFIN⟩ : ∃ FIN, shV decB (.pair a b) lev none = FIN := ⟨_, rfl⟩
 have hfs : FIN.size <= 25769803776 := by rw [<- hFIN]; have := shV_len decB_len (.pair a b) hok lev none; omega
 rw [hFIN]
 have HIT := Lib.hid (show shIt decB a b lev 0 ⟨#[40]⟩ = FIN by rw [<- hFIN, shV_top, if_neg h10])
 have HV0 := Lib.hid hv
 have HOK := Lib.hid hok
 have HSZ := Lib.hid hsz
 have HIH := Lib.hid ih
 have HA := Lib.hid hA
 obtain ⟨d, y, z, hxd, hq0, hq1, hq2, _, _⟩ := hv.at_pair
 simp only [Wd.mk.injEq] at hxd
 obtain ⟨rfl, rfl, rfl⟩ := hxd
 have hcap := hA.wds.cap_
 have hlc := hA.wds.le
 have hcap2 : cap <= 9223372036854775807 := by unfold maxLen at hcap; omega
 obtain ⟨bA, oA, rfl, hbA, hdl, g0, g1, g2⟩ := hA.wds.nth hq0
 simp only [pairW] at g0 g1 g2
 have e0 : (0 : Int) <= (d : Int) := Int.natCast_nonneg _
 have e1 : (d : Int) < (cap : Int) := by omega
 have e2 : (d : Int) < (len : Int) := by omega
 clear hFIN h10 hok hsz ih hA hlev hq0 hq1 hq2 hcap
 go_enter Tryz.func28, Tryz.ntmps28
 go_upto_region 1 with fail
 rw [HWB.out]
 go_wp2_with fail
 refine (KW.out wb HX.out.below).mono ?_
 rintro e w1 ⟨rfl, hb1⟩
 have hx1 := HX.out.new hb1
 obtain ⟨p0', p1', p2'⟩ := hx1.xr
 have f0 := hx1.fz 0
 have f1 := hx1.fz 1
 have f2 := hx1.fz 2
 have HX1 := Lib.hid hx1
 clear hb1 hx1 p0 p1 p2 b0 b1 b2 b3 b4
 go_upto_region 3 with fail
 obtain ⟨w2, hw2⟩ : ∃ w2, ((w1.setCell ⟨w.heap.size + 1, 0, none⟩ (.int .i64 5)).setCell ⟨w.heap.size + 1, 1, none⟩ (.int .i64 d)).setCell ⟨w.heap.size + 1, 2, none⟩ (.string ⟨#[]⟩) = w2 := ⟨_, rfl⟩
 have HX2 := Lib.hid (HX1.out.put hw2)
 obtain ⟨b0, b1, b2, b3, b4⟩ := HX2.out.bw
 obtain ⟨p0, p1, p2⟩ := HX2.out.xr
 rw [hw2]
 have HB2 := Lib.hid HX2.out.below
 clear hw2 p0' p1' p2' f0 f1 f2
 have g0 := (HB2.out.cell (p := ⟨bA, oA + d * 3, none⟩) hbA).trans g0
 have g1 := (HB2.out.cell (p := ⟨bA, oA + d * 3 + 1, none⟩) hbA).trans g1
 have g2 := (HB2.out.cell (p := ⟨bA, oA + d * 3 + 2, none⟩) hbA).trans g2
 clear hv
 go_upto_region 17 with fail
 obtain ⟨w3, hw3⟩ : ∃ w3, w2.alloc (.cells #[.int .i64 6, .int .i64 0, .string ⟨#[]⟩] 49) = w3 := ⟨_, rfl⟩
 have hb3 : Below w2.heap.size w2 w3 := by rw [<- hw3]; exact (Below.refl _ _).alloc (Nat.le_refl _) _
 have t0 : w3.cell? ⟨w2.heap.size, 0, none⟩ = some (.int .i64 6) := by rw [<- hw3]; exact za _ _ _ 0
 rw [hw3]
 have HX3 := Lib.hid (HX2.out.new hb3)
 clear hw3 hb3 g0 g1 g2 b0 b1 b2 b3 b4 p0 p1 p2
 go_wp2_with fail
 go_loopg [15, 16, 17, 18, 19] (szV (.pair a b)) (fun g sv bv i p q wr => ∃ (a' b' : Vl) (k' n' : Int) (s' : ByteArray) (j : Nat) (S : ByteArray), g = szV (.pair a' b') /\ i = .int .i64 j /\ sv = .string S /\ bv = .bool true /\ SiLp w FF fc (some ⟨bA, oA, none⟩) len cap hp lo hi lev FIN wr a' b' k' n' s' j S /\ szV (.pair a' b') <= szV (.pair a b))
 case atStart => exact ⟨a, b, _, _, _, 0, _, rfl, rfl, rfl, rfl, ⟨by omega, HIT.out, HOK.out, HX3.out, HV0.out⟩, Nat.le_refl _⟩
 obtain ⟨a', b', k', n', s', j, S, hg, rfl, rfl, rfl, hlp, hgs⟩ := hrel
 have HG := Lib.hid hg
 have HL := Lib.hid hlp
 have HGS := Lib.hid hgs
 obtain ⟨d, ⟨yk, yn, ys⟩, ⟨zk, zn, zs⟩, hxd, hq0, hq1, hq2, hva, hvb⟩ := hlp.hv.at_pair
 simp only [Wd.mk.injEq] at hxd
 obtain ⟨rfl, rfl, rfl⟩ := hxd
 obtain ⟨bA0, oA0, hA1, _, hdl, g0, g1, g2⟩ := (HA.out.wds.below (hlp.bx.below)).nth hq0
 obtain ⟨bA', oA', hA2, _, hd1l, y0, y1, y2⟩ := (HA.out.wds.below (hlp.bx.below)).nth hq1
 obtain ⟨bA'', oA'', hA3, _, hd2l, zz0, zz1, zz2⟩ := (HA.out.wds.below (hlp.bx.below)).nth hq2
 obtain ⟨rfl, rfl⟩ : bA = bA0 /\ oA = oA0 := by simpa using hA1
 obtain ⟨rfl, rfl⟩ : bA = bA' /\ oA = oA' := by simpa using hA2
 obtain ⟨rfl, rfl⟩ : bA = bA'' /\ oA = oA'' := by simpa using hA3
 simp only [pairW] at g0 g1 g2
 obtain ⟨v0, v1, v2⟩ := hlp.bx.xr
 obtain ⟨b0, b1, b2, b3, b4⟩ := hlp.bx.bw
 have hlr := hlp.bx.lt
 have hlr0 : w.heap.size < wr.heap.size := by omega
 have hj50 := hlp.le
 obtain ⟨d1, hd1⟩ : ∃ d1, d + 1 = d1 := ⟨_, rfl⟩
 obtain ⟨d2, hd2⟩ : ∃ d2, d + 2 = d2 := ⟨_, rfl⟩
 rw [hd1] at y0 y1 y2 hd1l
 rw [hd2] at zz0 zz1 zz2 hd2l
 have hN1 : (d : Int) + 1 = (d1 : Int) := by omega
 have hN2 : (d : Int) + 2 = (d2 : Int) := by omega
 have e00 : (0 : Int) <= (d : Int) := Int.natCast_nonneg _
 have e01 : (0 : Int) <= (d1 : Int) := Int.natCast_nonneg _
 have e02 : (0 : Int) <= (d2 : Int) := Int.natCast_nonneg _
 have e10 : (d : Int) < (cap : Int) := by omega
 have e11 : (d1 : Int) < (cap : Int) := by omega
 have e12 : (d2 : Int) < (cap : Int) := by omega
 have hw1 : IntKind.i64.wrap (d1 : Int) = (d1 : Int) := IntWalk.i64_in _ (by omega)
 have hw2 : IntKind.i64.wrap ((lev : Int) + 1) = (lev : Int) + 1 := IntWalk.i64_in _ (by omega)
 have e20 : (d : Int) < (len : Int) := by omega
 have e21 : (d1 : Int) < (len : Int) := by omega
 have e22 : (d2 : Int) < (len : Int) := by omega
 obtain ⟨HAS, hHA⟩ : ∃ HAS, shV decB a' (lev + 1) none = HAS := ⟨_, rfl⟩
 have hsz := HSZ.out
 have hq9 : szV a' < szV (.pair a b) /\ szV b' < szV (.pair a b) /\ szV a' <= 1073741824 /\ szV b' <= 1073741824 := by simp only [szV] at hgs hsz ⊢; omega
 have HQ := Lib.hid hq9
 have KA := Lib.hid (show ∀ W, Below w.heap.size w W -> Calls Tryz.prog 28 #[.agg #[.slice FF 2 fc, .slice none 0 0, .slice none 0 0, .slice (some ⟨bA, oA, none⟩) len cap, .int .i64 60000], .agg #[.int .i64 yk, .int .i64 yn, .string ys], .int .i64 ((lev : Int) + 1)] W (SiPost W HAS) from fun W hW => by
  have h := HIH.out a' HQ.out.1 W FF fc _ len cap hp lo hi yk yn ys (lev + 1) (HA.out.below hW) hva hlp.ok.1 (by omega) HQ.out.2.2.1
  rw [hHA] at h
  exact h)
 have HDR := Lib.hid (show Below w.heap.size w wr.drew from hlp.bx.below.drew)
 have KW2 := Lib.hid (fun (W : World) (hW : Below w.heap.size w W) => where_any (HA.out.wds.below hW) ⟨zk, zn, zs⟩ (fun hk => hvb.where_ok hk))
 have has : HAS.size <= 25769803776 := by rw [<- hHA]; have := shV_len decB_len a' hlp.ok.1 (lev + 1) none; omega
 have hss : S.size <= 25769803776 := by have h1 := shIt_ge decB a' b' lev j S; rw [hlp.it] at h1; omega
 have HHA := Lib.hid hHA
 have HVB := Lib.hid hvb
 have hbAr : bA < wr.heap.size := Nat.lt_of_lt_of_le hbA hlp.bx.below.size
 clear hg hlp hgs hq9 hva hvb hsz hHA hA1 hA2 hA3 hq0 hq1 hq2 hd1 hd2 g0 g1 g2
 by_cases hj0 : j = 0
 ·
  subst hj0
  have HMK := Lib.hid (shMark_zero S)
  have HJ := Lib.hid (show (0 : Nat) ≠ 50 by omega)
  go_upto_region 40 with fail
  go_region_held3 (fun w' => w'.cell? ⟨w.heap.size, 0, none⟩ = some (.slice FF 2 fc) /\ w'.cell? ⟨w.heap.size, 1, none⟩ = some (.slice none 0 0) /\ w'.cell? ⟨w.heap.size, 2, none⟩ = some (.slice none 0 0) /\ w'.cell? ⟨w.heap.size, 3, none⟩ = some (.slice (some ⟨bA, oA, none⟩) len cap) /\ w'.cell? ⟨w.heap.size, 4, none⟩ = some (.int .i64 60000) /\ w'.cell? ⟨w.heap.size + 1, 1, none⟩ = some (.int .i64 d) /\ w'.cell? ⟨bA, oA + d1 * 3, none⟩ = some (.int .i64 yk) /\ w'.cell? ⟨bA, oA + d1 * 3 + 1, none⟩ = some (.int .i64 yn) /\ w'.cell? ⟨bA, oA + d1 * 3 + 2, none⟩ = some (.string ys)) (go_keep)
   (first
     | (go_at_call 28; (with_reducible refine (KA.out wr.drew HDR.out).mono ?_); rintro e w3 ⟨rfl, hb3⟩; have HB3 := Lib.hid (show Below wr.heap.size wr w3 from ((Below.refl _ _).drew).trans hb3); have i0 := (HB3.out.cell (p := ⟨w.heap.size, 0, none⟩) hlr0).trans b0; have i1 := (HB3.out.cell (p := ⟨w.heap.size, 1, none⟩) hlr0).trans b1; have i2 := (HB3.out.cell (p := ⟨w.heap.size, 2, none⟩) hlr0).trans b2; have i3 := (HB3.out.cell (p := ⟨w.heap.size, 3, none⟩) hlr0).trans b3; have i4 := (HB3.out.cell (p := ⟨w.heap.size, 4, none⟩) hlr0).trans b4; have i5 := (HB3.out.cell (p := ⟨w.heap.size + 1, 1, none⟩) hlr).trans v1; have i6 := (HB3.out.cell (p := ⟨bA, oA + d1 * 3, none⟩) hbAr).trans y0; have i7 := (HB3.out.cell (p := ⟨bA, oA + d1 * 3 + 1, none⟩) hbAr).trans y1; have i8 := (HB3.out.cell (p := ⟨bA, oA + d1 * 3 + 2, none⟩) hbAr).trans y2; clear hb3))
  have hx3 := HL.out.bx.new HB3.out
  have zz0 := (HB3.out.cell (p := ⟨bA, oA + d2 * 3, none⟩) hbAr).trans zz0
  have zz1 := (HB3.out.cell (p := ⟨bA, oA + d2 * 3 + 1, none⟩) hbAr).trans zz1
  have zz2 := (HB3.out.cell (p := ⟨bA, oA + d2 * 3 + 2, none⟩) hbAr).trans zz2
  have HX3 := Lib.hid hx3
  clear y0 y1 y2 v0 v1 v2 b0 b1 b2 b3 b4 hx3 hw1 hw2
  go_wp2_with fail
  refine (KW2.out w3 HX3.out.below).mono ?_
  rintro e w4 ⟨rfl, hb4⟩
  have hx4 := HX3.out.new hb4
  obtain ⟨v0, v1, v2⟩ := hx4.xr
  have f0 := hx4.fz 0
  have f1 := hx4.fz 1
  have f2 := hx4.fz 2
  have HX4 := Lib.hid hx4
  clear hb4 hx4 zz0 zz1 zz2
  go_upto_region 44 with fail
  obtain ⟨w5, hw5⟩ : ∃ w5, ((w4.setCell ⟨w.heap.size + 1, 0, none⟩ (.int .i64 zk)).setCell ⟨w.heap.size + 1, 1, none⟩ (.int .i64 zn)).setCell ⟨w.heap.size + 1, 2, none⟩ (.string zs) = w5 := ⟨_, rfl⟩
  have hx5 := HX4.out.put hw5
  rw [hw5]
  have HX5 := Lib.hid hx5
  obtain ⟨v0', v1', v2'⟩ := hx5.xr
  clear hw5 v0 v1 v2 f0 f1 f2
  cases hP : isP b'
  ·
   cases hN : isN b'
   ·
    obtain ⟨hk3, hk5⟩ := HVB.out.atm hP hN
    have HFI := Lib.hid (show S ++ HAS ++ ⟨#[32, 46, 32]⟩ ++ shV decB b' (lev + 1) none ++ ⟨#[41]⟩ = FIN by rw [<- HMK.out, <- HHA.out, <- shIt_atom decB _ _ lev 0 S HJ.out hP hN]; exact HL.out.it)
    obtain ⟨HBs, hHBs⟩ : ∃ HBs, shV decB b' (lev + 1) none = HBs := ⟨_, rfl⟩
    have KB := Lib.hid (show ∀ W, Below w.heap.size w W -> Calls Tryz.prog 28 #[.agg #[.slice FF 2 fc, .slice none 0 0, .slice none 0 0, .slice (some ⟨bA, oA, none⟩) len cap, .int .i64 60000], .agg #[.int .i64 zk, .int .i64 zn, .string zs], .int .i64 ((lev : Int) + 1)] W (SiPost W HBs) from fun W hW => by
     have h := HIH.out b' HQ.out.2.1 W FF fc _ len cap hp lo hi zk zn zs (lev + 1) (HA.out.below hW) HVB.out HL.out.ok.2 (by omega) HQ.out.2.2.2
     rw [hHBs] at h
     exact h)
    have hbs : HBs.size <= 25769803776 := by rw [<- hHBs]; have := shV_len decB_len b' HL.out.ok.2 (lev + 1) none; have := HQ.out.2.2.2; omega
    rw [hHBs] at HFI
    obtain ⟨b0, b1, b2, b3, b4⟩ := hx5.bw
    clear hHBs hP hN hx5
    go_wp2_with fail
    refine (KB.out w5 HX5.out.below).mono ?_
    rintro e w6 ⟨rfl, hb6⟩
    have HB6 := Lib.hid (HX5.out.below.trans (hb6.mono HX5.out.below.size))
    clear hb6
    go_wp2_with fail
    refine bodyPost_ret (v := .tuple #[.string FIN, .bool true]) (by rw [<- HFI.out]; simp [results, Tryz.results28, go_sem]) rfl ?_
    exact ⟨rfl, HB6.out⟩
   have hbn : b' = .nil := by cases b' <;> first | rfl | cases hN
   subst hbn
   have HFI := Lib.hid (show S ++ HAS ++ ⟨#[41]⟩ = FIN by rw [<- HMK.out, <- HHA.out, <- shIt_nil decB _ lev 0 S HJ.out]; exact HL.out.it)
   have e3 : zk = 3 := by have h := HVB.out; cases h; rfl
   subst e3
   clear hP hN hx5
   go_wp2_with fail
   refine bodyPost_ret (v := .tuple #[.string FIN, .bool true]) (by rw [<- HFI.out]; simp [results, Tryz.results28, go_sem]) rfl ?_
   exact ⟨rfl, HX5.out.below⟩
  obtain ⟨b1', b2', rfl⟩ : ∃ b1 b2, b' = .pair b1 b2 := by cases b' <;> first | exact ⟨_, _, rfl⟩ | cases hP
  obtain ⟨d', y', z', hxd', hr0, _⟩ := HVB.out.at_pair
  simp only [Wd.mk.injEq] at hxd'
  obtain ⟨rfl, rfl, rfl⟩ := hxd'
  obtain ⟨bA3, oA3, hA9, _, hdl3, g0, _, _⟩ := (HA.out.wds.below HX5.out.below).nth hr0
  obtain ⟨rfl, rfl⟩ : bA = bA3 /\ oA = oA3 := by simpa using hA9
  simp only [pairW] at g0
  have r00 : (0 : Int) <= (d' : Int) := Int.natCast_nonneg _
  have r10 : (d' : Int) < (cap : Int) := by omega
  have r20 : (d' : Int) < (len : Int) := by omega
  clear hP hx5 hr0 hA9
  go_wp2_with fail
  go_roundg (szV (.pair b1' b2'))
  case rel => exact ⟨b1', b2', _, _, _, 0 + 1, S ++ HAS, rfl, by go_num, rfl, rfl, ⟨by have := HL.out.le; have := HJ.out; omega, by rw [<- HMK.out, <- HHA.out, <- shIt_pair decB a' b1' b2' lev 0 S HJ.out]; exact HL.out.it, HL.out.ok.2, HX5.out, HVB.out⟩, by have hgs := HGS.out; simp only [szV] at hgs ⊢; omega⟩
  case measure => have := HG.out; simp only [szV] at this ⊢; omega
 have hji : (0 : Int) < (j : Int) := by omega
 by_cases h50 : j = 50
 ·
  subst h50
  have HFI := Lib.hid (show S ++ ⟨#[32]⟩ ++ ⟨#[46, 46, 41]⟩ = FIN by rw [<- shMark_pos (by omega : 0 < 50) S, <- shIt_last]; exact HL.out.it)
  clear hj0
  go_wp2_with fail
  refine bodyPost_ret (v := .tuple #[.string FIN, .bool true]) (by rw [<- HFI.out]; simp [results, Tryz.results28, go_sem]) rfl ?_
  exact ⟨rfl, HL.out.bx.below⟩
 have hjb : ((j : Int) == 50) = false := by simp; omega
 have HJ := Lib.hid h50
 clear h50
 go_upto_region 38 with fail
 obtain ⟨SM, hSM⟩ : ∃ SM, S ++ (⟨#[32]⟩ : ByteArray) = SM := ⟨_, rfl⟩
 rw [hSM]
 have hss2 : SM.size <= 25769803777 := by rw [<- hSM, ByteArray.size_append]; have : (⟨#[32]⟩ : ByteArray).size = 1 := rfl; omega
 have HMK := Lib.hid (show shMark j S = SM by rw [shMark_pos (by omega : 0 < j), hSM])
 clear hSM hj0 hji
 go_upto_region 40 with fail
 go_region_held3 (fun w' => w'.cell? ⟨w.heap.size, 0, none⟩ = some (.slice FF 2 fc) /\ w'.cell? ⟨w.heap.size, 1, none⟩ = some (.slice none 0 0) /\ w'.cell? ⟨w.heap.size, 2, none⟩ = some (.slice none 0 0) /\ w'.cell? ⟨w.heap.size, 3, none⟩ = some (.slice (some ⟨bA, oA, none⟩) len cap) /\ w'.cell? ⟨w.heap.size, 4, none⟩ = some (.int .i64 60000) /\ w'.cell? ⟨w.heap.size + 1, 1, none⟩ = some (.int .i64 d) /\ w'.cell? ⟨bA, oA + d1 * 3, none⟩ = some (.int .i64 yk) /\ w'.cell? ⟨bA, oA + d1 * 3 + 1, none⟩ = some (.int .i64 yn) /\ w'.cell? ⟨bA, oA + d1 * 3 + 2, none⟩ = some (.string ys)) (go_keep)
  (first
    | (go_at_call 28; (with_reducible refine (KA.out wr.drew HDR.out).mono ?_); rintro e w3 ⟨rfl, hb3⟩; have HB3 := Lib.hid (show Below wr.heap.size wr w3 from ((Below.refl _ _).drew).trans hb3); have i0 := (HB3.out.cell (p := ⟨w.heap.size, 0, none⟩) hlr0).trans b0; have i1 := (HB3.out.cell (p := ⟨w.heap.size, 1, none⟩) hlr0).trans b1; have i2 := (HB3.out.cell (p := ⟨w.heap.size, 2, none⟩) hlr0).trans b2; have i3 := (HB3.out.cell (p := ⟨w.heap.size, 3, none⟩) hlr0).trans b3; have i4 := (HB3.out.cell (p := ⟨w.heap.size, 4, none⟩) hlr0).trans b4; have i5 := (HB3.out.cell (p := ⟨w.heap.size + 1, 1, none⟩) hlr).trans v1; have i6 := (HB3.out.cell (p := ⟨bA, oA + d1 * 3, none⟩) hbAr).trans y0; have i7 := (HB3.out.cell (p := ⟨bA, oA + d1 * 3 + 1, none⟩) hbAr).trans y1; have i8 := (HB3.out.cell (p := ⟨bA, oA + d1 * 3 + 2, none⟩) hbAr).trans y2; clear hb3))
 have hx3 := HL.out.bx.new HB3.out
 have zz0 := (HB3.out.cell (p := ⟨bA, oA + d2 * 3, none⟩) hbAr).trans zz0
 have zz1 := (HB3.out.cell (p := ⟨bA, oA + d2 * 3 + 1, none⟩) hbAr).trans zz1
 have zz2 := (HB3.out.cell (p := ⟨bA, oA + d2 * 3 + 2, none⟩) hbAr).trans zz2
 have HX3 := Lib.hid hx3
 clear y0 y1 y2 v0 v1 v2 b0 b1 b2 b3 b4 hx3 hw1 hw2
 go_wp2_with fail
 refine (KW2.out w3 HX3.out.below).mono ?_
 rintro e w4 ⟨rfl, hb4⟩
 have hx4 := HX3.out.new hb4
 obtain ⟨v0, v1, v2⟩ := hx4.xr
 have f0 := hx4.fz 0
 have f1 := hx4.fz 1
 have f2 := hx4.fz 2
 have HX4 := Lib.hid hx4
 clear hb4 hx4 zz0 zz1 zz2
 go_upto_region 44 with fail
 obtain ⟨w5, hw5⟩ : ∃ w5, ((w4.setCell ⟨w.heap.size + 1, 0, none⟩ (.int .i64 zk)).setCell ⟨w.heap.size + 1, 1, none⟩ (.int .i64 zn)).setCell ⟨w.heap.size + 1, 2, none⟩ (.string zs) = w5 := ⟨_, rfl⟩
 have hx5 := HX4.out.put hw5
 rw [hw5]
 have HX5 := Lib.hid hx5
 obtain ⟨v0', v1', v2'⟩ := hx5.xr
 clear hw5 v0 v1 v2 f0 f1 f2
 cases hP : isP b'
 ·
  cases hN : isN b'
  ·
   obtain ⟨hk3, hk5⟩ := HVB.out.atm hP hN
   have HFI := Lib.hid (show SM ++ HAS ++ ⟨#[32, 46, 32]⟩ ++ shV decB b' (lev + 1) none ++ ⟨#[41]⟩ = FIN by rw [<- HMK.out, <- HHA.out, <- shIt_atom decB _ _ lev j S HJ.out hP hN]; exact HL.out.it)
   obtain ⟨HBs, hHBs⟩ : ∃ HBs, shV decB b' (lev + 1) none = HBs := ⟨_, rfl⟩
   have KB := Lib.hid (show ∀ W, Below w.heap.size w W -> Calls Tryz.prog 28 #[.agg #[.slice FF 2 fc, .slice none 0 0, .slice none 0 0, .slice (some ⟨bA, oA, none⟩) len cap, .int .i64 60000], .agg #[.int .i64 zk, .int .i64 zn, .string zs], .int .i64 ((lev : Int) + 1)] W (SiPost W HBs) from fun W hW => by
    have h := HIH.out b' HQ.out.2.1 W FF fc _ len cap hp lo hi zk zn zs (lev + 1) (HA.out.below hW) HVB.out HL.out.ok.2 (by omega) HQ.out.2.2.2
    rw [hHBs] at h
    exact h)
   have hbs : HBs.size <= 25769803776 := by rw [<- hHBs]; have := shV_len decB_len b' HL.out.ok.2 (lev + 1) none; have := HQ.out.2.2.2; omega
   rw [hHBs] at HFI
   obtain ⟨b0, b1, b2, b3, b4⟩ := hx5.bw
   clear hHBs hP hN hx5
   go_wp2_with fail
   refine (KB.out w5 HX5.out.below).mono ?_
   rintro e w6 ⟨rfl, hb6⟩
   have HB6 := Lib.hid (HX5.out.below.trans (hb6.mono HX5.out.below.size))
   clear hb6
   go_wp2_with fail
   refine bodyPost_ret (v := .tuple #[.string FIN, .bool true]) (by rw [<- HFI.out]; simp [results, Tryz.results28, go_sem]) rfl ?_
   exact ⟨rfl, HB6.out⟩
  have hbn : b' = .nil := by cases b' <;> first | rfl | cases hN
  subst hbn
  have HFI := Lib.hid (show SM ++ HAS ++ ⟨#[41]⟩ = FIN by rw [<- HMK.out, <- HHA.out, <- shIt_nil decB _ lev j S HJ.out]; exact HL.out.it)
  have e3 : zk = 3 := by have h := HVB.out; cases h; rfl
  subst e3
  clear hP hN hx5
  go_wp2_with fail
  refine bodyPost_ret (v := .tuple #[.string FIN, .bool true]) (by rw [<- HFI.out]; simp [results, Tryz.results28, go_sem]) rfl ?_
  exact ⟨rfl, HX5.out.below⟩
 obtain ⟨b1', b2', rfl⟩ : ∃ b1 b2, b' = .pair b1 b2 := by cases b' <;> first | exact ⟨_, _, rfl⟩ | cases hP
 obtain ⟨d', y', z', hxd', hr0, _⟩ := HVB.out.at_pair
 simp only [Wd.mk.injEq] at hxd'
 obtain ⟨rfl, rfl, rfl⟩ := hxd'
 obtain ⟨bA3, oA3, hA9, _, hdl3, g0, _, _⟩ := (HA.out.wds.below HX5.out.below).nth hr0
 obtain ⟨rfl, rfl⟩ : bA = bA3 /\ oA = oA3 := by simpa using hA9
 simp only [pairW] at g0
 have r00 : (0 : Int) <= (d' : Int) := Int.natCast_nonneg _
 have r10 : (d' : Int) < (cap : Int) := by omega
 have r20 : (d' : Int) < (len : Int) := by omega
 clear hP hx5 hr0 hA9
 go_wp2_with fail
 go_roundg (szV (.pair b1' b2'))
 case rel => exact ⟨b1', b2', _, _, _, j + 1, SM ++ HAS, rfl, by go_num, rfl, rfl, ⟨by have := HL.out.le; have := HJ.out; omega, by rw [<- HMK.out, <- HHA.out, <- shIt_pair decB a' b1' b2' lev j S HJ.out]; exact HL.out.it, HL.out.ok.2, HX5.out, HVB.out⟩, by have hgs := HGS.out; simp only [szV] at hgs ⊢; omega⟩
 case measure => have := HG.out; simp only [szV] at this ⊢; omega
theorem shownIn_any : (n : Nat) -> ∀ v, szV v <= n -> SiSays v
 | 0, v, h => by cases v <;> (simp only [szV] at h; omega)
 | n + 1, v, h => by
  cases v with
  | int m => exact si_int
  | bool m => exact si_bool
  | nil => exact si_nil
  | sym m => exact si_sym
  | pair a b => exact si_pair (fun u hu => shownIn_any n u (by omega))
end Go.Proofs.YtfhbdlobhjegcaaGreatDoor
