import Derived.Test.YtjmeodadkjcmmaaDoorFormH
namespace Go.Proofs.YtjmeodadkjcmmaaDoor
open Go.RowKit Go.ChangeShapes Go.WideShapes Go.Deep Go.ChangeAt
set_option linter.unusedVariables false
set_option maxRecDepth 100000
theorem kw_cases {s : ByteArray} (h : isKw s.toList = true) : s = ⟨#[113, 117, 111, 116, 101]⟩ \/ s = ⟨#[105, 102]⟩ \/ s = ⟨#[108, 101, 116]⟩ \/ s = ⟨#[108, 97, 109, 98, 100, 97]⟩ \/ s = ⟨#[98, 101, 103, 105, 110]⟩ \/ s = ⟨#[115, 101, 116, 33]⟩ \/ s = ⟨#[114, 101, 99, 111, 114, 100]⟩ \/ s = ⟨#[100, 101, 102, 105, 110, 101]⟩ \/ s = ⟨#[117, 112, 103, 114, 97, 100, 101]⟩ \/ s = ⟨#[119, 97, 115]⟩ := by
 have e : ∀ l : List UInt8, s.toList = l -> s = ⟨l.toArray⟩ := fun l hl => ba_ext (by rw [hl, ByteArray.toList_eq])
 unfold isKw kws at h
 simp only [List.contains_cons, List.contains_nil, Bool.or_eq_true, beq_iff_eq, Bool.false_eq_true, or_false] at h
 rcases h with h | h | h | h | h | h | h | h | h | h <;> (have := e _ h; subst this; simp)
theorem special_any {W0 w : World} {m : Fm} {n : Nat} {rec : List ByteArray -> Dt -> Fd Ex} (he : ExprSays W0 m n rec) (hlet : LetSays W0 m n rec) (h : zx W0 w m 0) (s : ByteArray) (hk : isKw s.toList = true) (A : Option Addr) (cap : Nat) (l : List Dt) (hl : DsAt W0 w m.F A cap l) (hgd : ∀ x ∈ l, Good n x) (hn : l.length <= 1048576) (B : Option Addr) (bc : Nat) (ls : List ByteArray) (hsc : ScAt w m.F B bc ls) (hls : ls.length <= 40) :
  Calls Tryd.prog 67 #[.pointer (some ⟨m.F, 0, none⟩), .string s, .slice A l.length cap, .slice B ls.length bc] w (ExPost W0 w m (wordF m.pl rec ls s.toList l)) := by
 rcases kw_cases hk with rfl | rfl | rfl | rfl | rfl | rfl | rfl | rfl | rfl | rfl
 ·
  rw [show (⟨#[113, 117, 111, 116, 101]⟩ : ByteArray).toList = [113, 117, 111, 116, 101] from by rw [ByteArray.toList_eq]]; exact special_quote he hlet h A cap l hl hgd hn B bc ls hsc hls
 ·
  rw [show (⟨#[105, 102]⟩ : ByteArray).toList = [105, 102] from by rw [ByteArray.toList_eq]]; exact special_if he hlet h A cap l hl hgd hn B bc ls hsc hls
 ·
  rw [show (⟨#[108, 101, 116]⟩ : ByteArray).toList = [108, 101, 116] from by rw [ByteArray.toList_eq]]; exact special_let he hlet h A cap l hl hgd hn B bc ls hsc hls
 ·
  rw [show (⟨#[108, 97, 109, 98, 100, 97]⟩ : ByteArray).toList = [108, 97, 109, 98, 100, 97] from by rw [ByteArray.toList_eq]]; exact special_lambda he hlet h A cap l hl hgd hn B bc ls hsc hls
 ·
  rw [show (⟨#[98, 101, 103, 105, 110]⟩ : ByteArray).toList = [98, 101, 103, 105, 110] from by rw [ByteArray.toList_eq]]; exact special_begin he hlet h A cap l hl hgd hn B bc ls hsc hls
 ·
  rw [show (⟨#[115, 101, 116, 33]⟩ : ByteArray).toList = [115, 101, 116, 33] from by rw [ByteArray.toList_eq]]; exact special_set he hlet h A cap l hl hgd hn B bc ls hsc hls
 ·
  rw [show (⟨#[114, 101, 99, 111, 114, 100]⟩ : ByteArray).toList = [114, 101, 99, 111, 114, 100] from by rw [ByteArray.toList_eq]]; exact special_record he hlet h A cap l hl hgd hn B bc ls hsc hls
 ·
  rw [show (⟨#[100, 101, 102, 105, 110, 101]⟩ : ByteArray).toList = [100, 101, 102, 105, 110, 101] from by rw [ByteArray.toList_eq]]; exact special_define he hlet h A cap l hl hgd hn B bc ls hsc hls
 ·
  rw [show (⟨#[117, 112, 103, 114, 97, 100, 101]⟩ : ByteArray).toList = [117, 112, 103, 114, 97, 100, 101] from by rw [ByteArray.toList_eq]]; exact special_upgrade he hlet h A cap l hl hgd hn B bc ls hsc hls
 rw [show (⟨#[119, 97, 115]⟩ : ByteArray).toList = [119, 97, 115] from by rw [ByteArray.toList_eq]]; exact special_was he hlet h A cap l hl hgd hn B bc ls hsc hls
theorem below_rowG {w w1 w' : World} {g : Nat} (hb : Below w.heap.size w w1) (hgw : w.heap.size <= g) (hg : w1.grownBy w' (some g)) : Below w.heap.size w w' :=
 ⟨hg.os.trans hb.os, hg.tape.trans hb.tape, hg.output.trans hb.output, Nat.le_trans hb.size hg.size, fun k hk => (hg.block k (Nat.lt_of_lt_of_le hk hb.size) (fun e => by have := Option.some.inj e; omega)).trans (hb.block k hk)⟩
theorem got_copyG {W0 w w1 w' : World} {g : Nat} {x : Ex} {v : EV} (ht : v.t = x) (hlo : g < v.lo) (hhi : v.hi <= w1.heap.size) (hok : (kitEx W0).ok w1 v) (hb : Below w.heap.size w w1) (hgw : w.heap.size <= g) (hg : w1.grownBy w' (some g)) : GotEx W0 w x (.returned v.agg) w' := by
 refine ⟨{ v with lo := w.heap.size, hi := w'.heap.size }, rfl, ht, rfl, rfl, ⟨?_, Nat.le_refl _⟩, below_rowG hb hgw hg⟩
 exact hok.1.mono (zm hg (fun b h1 h2 e => by have := Option.some.inj e; omega)) hg.size (by show w.heap.size <= v.lo; omega) (by show v.hi <= w'.heap.size; exact Nat.le_trans hhi hg.size)
theorem bad_anyG {W0 w w2 w' : World} {m : Fm} {c : Int} {g : Nat} (h : zx W0 w m 0) (hF : zx W0 w2 m c) (hg : w.grownBy w2 (some m.F)) (hc : 1 <= c) (v : EV) (hgw : w.heap.size <= g) (hg2 : w2.grownBy w' (some g)) : ExPost W0 w m (.err c) (.returned v.agg) w' := by
 obtain ⟨e1, e2⟩ := h.later hF hg ⟨hg2.os, hg2.tape, hg2.output, hg2.size, fun k hk => hg2.block k (Nat.lt_of_lt_of_le hk hg.size) (fun e => by have := Option.some.inj e; omega)⟩
 exact ⟨v, rfl, hc, e1, e2⟩
theorem got_buildG {W0 w w1 w' : World} {base g : Nat} {A : Option Addr} {cap : Nat} {X : List EV} (hX : OwnAt (kitEx W0) 63 base w1 (.slice A X.length cap) X) (hbase : g < base) (hb : Below w.heap.size w w1) (hgw : w.heap.size <= g) (hg : w1.grownBy w' (some g)) (k : Int) (S : ByteArray) (N : Int) :
  GotEx W0 w (.mk k dt0 S N [] (X.map (·.t))) (.returned (.agg #[.int .i64 k, .int .i64 0, .int .i64 0, .string ⟨#[]⟩, .slice none 0 0, .string S, .int .i64 N, .slice none 0 0, .slice A X.length cap])) w' := by
 obtain ⟨A', cap', hv, h1, h2, hrow, heach⟩ := hX.args
 obtain ⟨rfl, rfl⟩ : A = A' /\ cap = cap' := by simpa using hv
 have hk1 : Keep base w1.heap.size w1 w' := zm hg (fun b h1 h2 e => by have := Option.some.inj e; omega)
 refine ⟨⟨k, 0, 0, ⟨#[]⟩, none, 0, 0, S, N, none, 0, 0, A, X.length, cap, .mk k dt0 S N [] (X.map (·.t)), w.heap.size, w'.heap.size⟩, rfl, rfl, rfl, rfl, ⟨?_, Nat.le_refl _⟩, below_rowG hb hgw hg⟩
 have hl : (X.map (·.t)).length = X.length := by simp
 have hm := ExIn.mk (W0 := W0) (w := w') (lo := w.heap.size) (hi := w'.heap.size) k 0 0 ⟨#[]⟩ none 0 0 dt0 (dt0_in W0) S N none 0 [] (NmIn.nil _ _ _) A cap (X.map (·.t)) (X.map EV.cells) (by simp) (by rw [hl]; exact h1) h2 (hrow.mono hk1 hg.size (by omega) hg.size) (fun i hi hi' => (heach i hi hi').mono hk1 hg.size (by omega) hg.size)
 rw [hl] at hm
 exact hm
def Parted (W0 w : World) (m : Fm) (h : Dt) (rest : List Dt) (v7 v8 : Value) (w' : World) : Prop := ∃ (q : Nat) (A : Option Addr) (c : Nat) (R : Option Addr) (rc : Nat), v7 = .pointer (some ⟨q, 0, none⟩) /\ v8 = .slice R rest.length rc /\ w.heap.size <= q /\ q < w'.heap.size /\ rest.length <= rc /\ rc <= maxLen ∧
 w'.cell? ⟨q, 0, none⟩ = some (.int .i64 h.k) /\ w'.cell? ⟨q, 1, none⟩ = some (.int .i64 h.n) /\ w'.cell? ⟨q, 2, none⟩ = some (.string h.s) /\ w'.cell? ⟨q, 3, none⟩ = some (.slice A h.l.length c) /\ DsAt W0 w' m.F R rc rest /\ Below w.heap.size w w'
theorem parted_mk {W0 w w' : World} {m : Fm} {h : Dt} {rest : List Dt} {K : Nat} {R : Option Addr} {rc : Nat} {A : Option Addr} {c : Nat} (hK : rest.length = K) (hd : DsAt W0 w m.F R rc rest) (hq : w.heap.size < w'.heap.size) (hb : Below w.heap.size w w')
  (h0 : w'.cell? ⟨w.heap.size, 0, none⟩ = some (.int .i64 h.k)) (h1 : w'.cell? ⟨w.heap.size, 1, none⟩ = some (.int .i64 h.n)) (h2 : w'.cell? ⟨w.heap.size, 2, none⟩ = some (.string h.s)) (h3 : w'.cell? ⟨w.heap.size, 3, none⟩ = some (.slice A h.l.length c)) :
  Parted W0 w m h rest (.pointer (some ⟨w.heap.size, 0, none⟩)) (.slice R K rc) w' := by
 subst hK
 exact ⟨w.heap.size, A, c, R, rc, rfl, rfl, Nat.le_refl _, hq, hd.le, hd.cap_, h0, h1, h2, h3, hd.below hb, hb⟩
theorem prim_fin {W0 w W w3 w' : World} {m : Fm} {K : Nat} {r3 : Fd (List Ex)} {A3 : Option Addr} {cp3 g : Nat} {k : Int} {S : ByteArray} (h : zx W0 w m 0) (hbW : Below w.heap.size w W) (hgW : g < W.heap.size) (hgw : w.heap.size <= g) (hg3 : W.grownBy w3 (some m.F)) (hx : XsOut W0 W m K r3 w3 A3 cp3) (hg : w3.grownBy w' (some g)) :
  ExPost W0 w m (mapF (eK k S) r3) (.returned (.agg #[.int .i64 k, .int .i64 0, .int .i64 0, .string ⟨#[]⟩, .slice none 0 0, .string S, .int .i64 0, .slice none 0 0, .slice A3 K cp3])) w' := by
 cases r3 with
 | ok xs =>
  obtain ⟨X, rfl, hO, rfl, hb⟩ := hx
  exact got_buildG hO hgW (hbW.trans (hb.mono hbW.size)) hgw hg k S 0
 | err c => exact bad_anyG h hx.2 ((zb hbW _).trans hg3) hx.1 ⟨k, 0, 0, ⟨#[]⟩, none, 0, 0, S, 0, none, 0, 0, A3, K, cp3, eC dt0, 0, 0⟩ hgw hg
section
variable {p : Pl} {rec : List ByteArray -> Dt -> Fd Ex} {ls : List ByteArray} {d h : Dt} {rest : List Dt}
theorem form_list (hk : d.k = 4) (hd : d.l = h :: rest) : formF p rec ls d = (if h.k ≠ 3 \/ inL ls h.s = true then callF p (rec ls) (h :: rest)
   else if isKw h.s.toList = true then wordF p rec ls h.s.toList rest
   else if 0 <= primN h.s.toList then (if primN h.s.toList = rest.length then mapF (eK 10 h.s) (allF (rec ls) rest) else .err 10)
   else if p.up = true then .err 15
   else if inL p.globals h.s = true then callF p (rec ls) (h :: rest)
   else recF (rec ls) h.s rest p.shapes) := by
 unfold formF
 rw [if_neg (by omega), if_neg (by omega), hd]
theorem form_call (hk : d.k = 4) (hd : d.l = h :: rest) (hc : h.k ≠ 3 \/ inL ls h.s = true) : formF p rec ls d = callF p (rec ls) (h :: rest) := by rw [form_list hk hd, if_pos hc]
theorem form_word (hk : d.k = 4) (hd : d.l = h :: rest) (hc : ¬ (h.k ≠ 3 \/ inL ls h.s = true)) (h1 : isKw h.s.toList = true) : formF p rec ls d = wordF p rec ls h.s.toList rest := by rw [form_list hk hd, if_neg hc, if_pos h1]
theorem form_prim (hk : d.k = 4) (hd : d.l = h :: rest) (hc : ¬ (h.k ≠ 3 \/ inL ls h.s = true)) (h1 : isKw h.s.toList = false) (h2 : 0 <= primN h.s.toList) : formF p rec ls d = (if primN h.s.toList = rest.length then mapF (eK 10 h.s) (allF (rec ls) rest) else .err 10) := by rw [form_list hk hd, if_neg hc, if_neg (by rw [h1]; simp), if_pos h2]
theorem form_else (hk : d.k = 4) (hd : d.l = h :: rest) (hc : ¬ (h.k ≠ 3 \/ inL ls h.s = true)) (h1 : isKw h.s.toList = false) (h2 : ¬ 0 <= primN h.s.toList) : formF p rec ls d = (if p.up = true then .err 15 else if inL p.globals h.s = true then callF p (rec ls) (h :: rest) else recF (rec ls) h.s rest p.shapes) := by rw [form_list hk hd, if_neg hc, if_neg (by rw [h1]; simp), if_neg h2]
end
set_option maxHeartbeats 2000000 in
theorem expr_one {W0 w : World} {m : Fm} {n : Nat} {rec : List ByteArray -> Dt -> Fd Ex} (he : ExprSays W0 m n rec) (hlet : LetSays W0 m n rec) (hfd : ∀ x ∈ m.sh, ∀ f ∈ x.ss, 0 < f.size) (d : Dt) (A : Option Addr) (c : Nat) (B : Option Addr) (bc : Nat) (ls : List ByteArray) (h : zx W0 w m 0) (hgd : Good (n + 1) d)
  (hd : DtIn W0 0 W0.heap.size [.int .i64 d.k, .int .i64 d.n, .string d.s, .slice A d.l.length c] d) (hsc : ScAt w m.F B bc ls) (hls : ls.length <= 40) :
  Calls Tryd.prog 44 #[.pointer (some ⟨m.F, 0, none⟩), .agg #[.int .i64 d.k, .int .i64 d.n, .string d.s, .slice A d.l.length c], .slice B ls.length bc] w (ExPost W0 w m (formF m.pl rec ls d)) := by
 have hds := hgd.wide
 have hdl := hgd.len
 obtain ⟨N, hN⟩ : ∃ N, d.l.length = N := ⟨_, rfl⟩
 have HN := Lib.hid hN
 rw [hN] at hd hdl ⊢
 have H := Lib.hid h
 have HE := Lib.hid he
 have HLT := Lib.hid hlet
 have HSC := Lib.hid hsc
 have HD := Lib.hid hd
 have HGD := Lib.hid hgd
 have HFD := Lib.hid hfd
 have hlt := h.lt
 have hne := World.new_ne w _ h.c0
 have hneF : w.heap.size + 1 ≠ m.F := by omega
 have c4 := h.c4
 have hbc := hsc.le
 have hbox : Below w.heap.size w ((w.alloc (.cells #[.int .i64 d.k, .int .i64 d.n, .string d.s, .slice A N c] 38)).alloc (.cells #[.int .i64 0, .int .i64 0, .int .i64 0, .string ⟨#[]⟩, .slice none 0 0, .string ⟨#[]⟩, .int .i64 0, .slice none 0 0, .slice none 0 0] 63)) := ((Below.refl _ _).alloc (Nat.le_refl _) _).alloc (by simp) _
 have HBX := Lib.hid hbox
 have HFX := Lib.hid (h.next hbox)
 have HSX := Lib.hid (hsc.below hbox)
 obtain ⟨r, hr⟩ : ∃ r, formF m.pl rec ls d = r := ⟨_, rfl⟩
 have HR := Lib.hid hr
 rw [hr]
 clear h he hlet hsc hd hgd hfd hbox hr hN
 obtain ⟨hk1, hk4⟩ := HGD.out.kind
 rcases (show (d.k = 1 \/ d.k = 2) \/ d.k = 3 \/ d.k = 4 by omega) with hk | hk | hk
 ·
  -- a constant
  obtain rfl : r = .ok (eC d) := by rw [<- HR.out]; unfold formF; rw [if_pos hk]
  have hka : (d.k == 1) = true \/ ((d.k == 1) = false /\ (d.k == 2) = true) := by
   rcases hk with h | h
   ·
    exact Or.inl (by rw [h]; rfl)
   exact Or.inr ⟨by rw [h]; rfl, by rw [h]; rfl⟩
  clear hk hk1 hk4
  rcases hka with ha | ⟨ha, hb⟩
  all_goals
   go_enter Tryd.func44, Tryd.ntmps44
   go_wp2_with fail
   exact bodyPost_ret (by simp [results, Tryd.results44, go_sem]) rfl (got_plain 1 d.k d.n d.s A N c d ⟨#[]⟩ 0 HD.out (((Below.refl _ _).alloc (Nat.le_refl _) _).alloc (by simp) _))
 ·
  -- a name
  have hr2 : namedF m.pl ls d.s = r := by rw [<- HR.out]; unfold formF; rw [if_neg (by omega), if_pos hk]
  have HR2 := Lib.hid hr2
  have ha : (d.k == 1) = false := by rw [hk]; rfl
  have hb : (d.k == 2) = false := by rw [hk]; rfl
  have hc : (d.k == 3) = true := by rw [hk]; rfl
  clear hk hk1 hk4 hr2
  go_enter Tryd.func44, Tryd.ntmps44
  go_wp2_with fail
  refine (variable_any HFX.out d.s hds B bc ls HSX.out).mono ?_
  intro e w1 hpost
  rw [HR2.out] at hpost
  cases r with
  | ok x =>
   obtain ⟨v1, rfl, ht, hlo, hhi, hok, hb1⟩ := hpost
   obtain ⟨g1, g2⟩ := bcell hb1
   have HP := Lib.hid (fun w' hg => got_copyG (w := w) (w' := w') (g := w.heap.size + 1) ht (by rw [hlo]; simp) (by rw [hhi]; exact Nat.le_refl _) hok (HBX.out.trans (hb1.mono HBX.out.size)) (by omega) hg)
   clear hb1 ht hlo hhi hok
   unfold EV.agg
   go_wp2_with fail
   exact bodyPost_ret (v := v1.agg) (by simp [results, Tryd.results44, go_sem, EV.agg, g1]) rfl (HP.out _ (za1 _ _ _ _ _ _ _ _ _ _ _))
  | err cc =>
   obtain ⟨v1, rfl, hc1, hF1, hg1⟩ := hpost
   obtain ⟨g1, g2⟩ := gcell hg1
   have HP := Lib.hid (fun w' hg => bad_anyG (w' := w') (g := w.heap.size + 1) H.out hF1 ((zb HBX.out _).trans hg1) hc1 v1 (by omega) hg)
   clear hg1 hF1 hc1
   unfold EV.agg
   go_wp2_with fail
   exact bodyPost_ret (v := v1.agg) (by simp [results, Tryd.results44, go_sem, EV.agg, g1, hneF]) rfl (HP.out _ (za1 _ _ _ _ _ _ _ _ _ _ _))
 have ha : (d.k == 1) = false := by rw [hk]; rfl
 have hb : (d.k == 2) = false := by rw [hk]; rfl
 have hc : (d.k == 3) = false := by rw [hk]; rfl
 rcases hdd : d.l with _ | ⟨hh, rest⟩
 ·
  obtain rfl : r = .err 4 := by rw [<- HR.out]; unfold formF; rw [if_neg (by omega), if_neg (by omega), hdd]
  have hL : ((N : Int) == 0) = true := by have := HN.out; rw [hdd] at this; rw [<- this]; rfl
  clear hk hk1 hk4 hdd
  go_enter Tryd.func44, Tryd.ntmps44
  go_wp2_with fail
  refine (ze HFX.out 4).mono ?_
  rintro e w2 ⟨rfl, hF, hg⟩
  obtain ⟨g1, g2⟩ := gcell hg
  have HP := Lib.hid (fun w' hg' => bad_anyG (w' := w') (g := w.heap.size + 1) H.out hF ((zb HBX.out _).trans hg) (by decide) evz (by omega) hg')
  clear hF hg
  unfold evz EV.agg
  go_wp2_with fail
  exact bodyPost_ret (v := evz.agg) (by simp [results, Tryd.results44, go_sem, evz, EV.agg, g1, hneF]) rfl (HP.out _ (za1 _ _ _ _ _ _ _ _ _ _ _))
 obtain ⟨A0, c00, hA0, hit⟩ := HD.out.items H.out.below H.out.ge
 obtain ⟨rfl, rfl⟩ : A = A0 /\ c = c00 := by have h := hA0; simp only [List.cons.injEq, Value.slice.injEq, and_true, true_and] at h; exact ⟨h.1, h.2.2⟩
 have hle := hit.le
 rw [HN.out] at hle
 have hcm := hit.cap_
 unfold maxLen at hcm
 rw [hdd] at hit
 obtain ⟨b, o, A', c', rfl, hbw, hbF, d0, d1, d2, d3, hdh, hih, htl⟩ := hit.first H.out.below H.out.ge
 have hrl : N = rest.length + 1 := by rw [<- HN.out, hdd]; rfl
 have HNR := Lib.hid (show rest.length = N - 1 by omega)
 have HDD := Lib.hid hdd
 have HGH := Lib.hid (show Good n hh from HGD.out.item (by rw [hdd]; simp))
 have HGR := Lib.hid (show ∀ x ∈ rest, Good n x from fun x hx => HGD.out.item (by rw [hdd]; exact List.mem_cons_of_mem _ hx))
 have HTL := Lib.hid htl
 have HDH := Lib.hid hdh
 have HIT := Lib.hid hit
 have hL : ((N : Int) == 0) = false := by rw [beq_eq_false_iff_ne]; omega
 have hN1 : 1 <= N := by omega
 have hi1 : (1 : Int) <= (N : Int) := by omega
 have hi2 : (N : Int) <= (c : Int) := by omega
 have hi3 : IntKind.i64.wrap 1 = 1 := IntWalk.i64_in _ (by omega)
 have hi4 : 0 < N := by omega
 have HK4 := Lib.hid hk
 clear hk hk1 hk4 hdd hit hrl hA0 htl hdh hih
 go_enter Tryd.func44, Tryd.ntmps44
 go_upto_region 11 with fail
 obtain ⟨wa, hwa⟩ : ∃ wa : World, wa = (w.alloc (.cells #[.int .i64 d.k, .int .i64 d.n, .string d.s, .slice (some ⟨b, o, none⟩) N c] 38)).alloc (.cells #[.int .i64 0, .int .i64 0, .int .i64 0, .string ⟨#[]⟩, .slice none 0 0, .string ⟨#[]⟩, .int .i64 0, .slice none 0 0, .slice none 0 0] 63) := ⟨_, rfl⟩
 have hza : wa.heap.size = w.heap.size + 1 + 1 := by rw [hwa]; simp
 have b3 : wa.cell? ⟨w.heap.size, 3, none⟩ = some (.slice (some ⟨b, o, none⟩) N c) := by rw [hwa]; exact (World.cell?_alloc_lt _ _ ⟨w.heap.size, 3, none⟩ (by simp)).trans (za _ _ _ 3)
 have RZ : ∀ j, wa.cell? ⟨w.heap.size + 1, j, none⟩ = (#[.int .i64 0, .int .i64 0, .int .i64 0, .string ⟨#[]⟩, .slice none 0 0, .string ⟨#[]⟩, .int .i64 0, .slice none 0 0, .slice none 0 0] : Array Value)[j]? := fun j => by rw [hwa, show w.heap.size + 1 = (w.alloc (.cells #[.int .i64 d.k, .int .i64 d.n, .string d.s, .slice (some ⟨b, o, none⟩) N c] 38)).heap.size by simp]; exact za _ _ _ j
 have RF : ∀ j, wa.frozen? ⟨w.heap.size + 1, j, none⟩ = false := fun j => by rw [hwa]; simp
 rw [<- hwa] at HBX HFX HSX ⊢
 have hsa : w.heap.size < wa.heap.size := by omega
 have hsa1 : w.heap.size + 1 < wa.heap.size := by omega
 have hba : b < wa.heap.size := by omega
 have e0 := (HBX.out.cell (p := ⟨b, o, none⟩) hbw).trans d0
 have e1 := (HBX.out.cell (p := ⟨b, o + 1, none⟩) hbw).trans d1
 have e2 := (HBX.out.cell (p := ⟨b, o + 2, none⟩) hbw).trans d2
 have e3 := (HBX.out.cell (p := ⟨b, o + 3, none⟩) hbw).trans d3
 have HTA := Lib.hid (HTL.out.below HBX.out)
 have hnx := World.new_ne wa _ b3
 have hny := World.new_ne wa _ e0
 have HZA := Lib.hid hza
 clear hwa hza d0 d1 d2 d3
 go_cut [7, 8] (fun v7 v8 wx => Parted W0 wa m hh rest v7 v8 wx)
 case first =>
  by_cases hcap1 : c = 1
  case pos =>
   subst hcap1
   obtain rfl : N = 1 := by omega
   have HDN := Lib.hid (show DsAt W0 wa m.F (some ⟨b, o, none⟩) 0 rest from ⟨by rw [HNR.out]; exact Nat.le_refl _, by unfold maxLen; omega, fun h => absurd h (by rw [HNR.out]; simp)⟩)
   go_region_held3 (fun w' => w'.cell? ⟨w.heap.size, 3, none⟩ = some (.slice (some ⟨b, o, none⟩) 1 1) /\ w'.cell? ⟨b, o, none⟩ = some (.int .i64 hh.k) /\ w'.cell? ⟨b, o + 1, none⟩ = some (.int .i64 hh.n) /\ w'.cell? ⟨b, o + 2, none⟩ = some (.string hh.s) /\ w'.cell? ⟨b, o + 3, none⟩ = some (.slice A' hh.l.length c')) (go_keep) (fail)
   all_goals (go_wp2_with fail)
   all_goals go_meet
   all_goals exact parted_mk (by rw [HNR.out]) HDN.out (by simp) (((Below.refl _ _).alloc (Nat.le_refl _) _).drew) (za _ _ _ 0) (za _ _ _ 1) (za _ _ _ 2) (za _ _ _ 3)
  go_region_held3 (fun w' => w'.cell? ⟨w.heap.size, 3, none⟩ = some (.slice (some ⟨b, o, none⟩) N c) /\ w'.cell? ⟨b, o, none⟩ = some (.int .i64 hh.k) /\ w'.cell? ⟨b, o + 1, none⟩ = some (.int .i64 hh.n) /\ w'.cell? ⟨b, o + 2, none⟩ = some (.string hh.s) /\ w'.cell? ⟨b, o + 3, none⟩ = some (.slice A' hh.l.length c')) (go_keep) (fail)
  all_goals (go_wp2_with fail)
  all_goals go_meet
  all_goals exact parted_mk HNR.out HTA.out (by simp) (((Below.refl _ _).alloc (Nat.le_refl _) _).drew) (za _ _ _ 0) (za _ _ _ 1) (za _ _ _ 2) (za _ _ _ 3)
 obtain ⟨q, HA, hcq, R, rc, rfl, rfl, hq, hqx, hrle, hrm, q0, q1, q2, q3, hds2, hbx⟩ := hcut
 have HBC := Lib.hid (HBX.out.trans (hbx.mono HBX.out.size))
 have HFC := Lib.hid (HFX.out.next hbx)
 have HSS := Lib.hid (HSX.out.below hbx)
 have HDR := Lib.hid hds2
 have hsc1 : w.heap.size + 1 < wc.heap.size := Nat.lt_of_lt_of_le hsa1 hbx.size
 have bc3 : wc.cell? ⟨w.heap.size, 3, none⟩ = some (.slice (some ⟨b, o, none⟩) N c) := (hbx.cell (p := ⟨w.heap.size, 3, none⟩) hsa).trans b3
 have RZC : ∀ j, wc.cell? ⟨w.heap.size + 1, j, none⟩ = (#[.int .i64 0, .int .i64 0, .int .i64 0, .string ⟨#[]⟩, .slice none 0 0, .string ⟨#[]⟩, .int .i64 0, .slice none 0 0, .slice none 0 0] : Array Value)[j]? := fun j => (hbx.cell (p := ⟨w.heap.size + 1, j, none⟩) hsa1).trans (RZ j)
 have RFC : ∀ j, wc.frozen? ⟨w.heap.size + 1, j, none⟩ = false := fun j => (hbx.frozen (p := ⟨w.heap.size + 1, j, none⟩) hsa1).trans (RF j)
 have hq1 : q ≠ w.heap.size + 1 := by omega
 have hq2 : w.heap.size + 1 ≠ q := by omega
 have hqF : q ≠ m.F := by have := HFX.out.lt; omega
 have hcF := HFC.out.lt
 have cc0 := HFC.out.c0
 have cc3 := HFC.out.c3
 have hhs := HGH.out.wide
 have hr1 := HNR.out
 have HCALL := Lib.hid (show ∀ W : World, Below wc.heap.size wc W -> Calls Tryd.prog 66 #[.pointer (some ⟨m.F, 0, none⟩), .slice (some ⟨b, o, none⟩) N c, .slice B ls.length bc] W (ExPost W0 W m (callF m.pl (rec ls) (hh :: rest))) from fun W hW => by
  have hln : (hh :: rest).length = N := by rw [List.length_cons]; omega
  have := call_any HE.out (HFC.out.next hW) (some ⟨b, o, none⟩) c (hh :: rest) ((HIT.out.below HBC.out).below hW) (fun x hx => by rcases List.mem_cons.1 hx with rfl | hx; exact HGH.out; exact HGR.out x hx) (by rw [hln]; exact hdl) B bc ls (HSS.out.below hW) hls
  rwa [hln] at this)
 obtain ⟨K, hK⟩ : ∃ K, rest.length = K := ⟨_, rfl⟩
 have HKK := Lib.hid hK
 rw [hK] at hrle hr1 ⊢
 have hK1 : K <= 1048576 := by omega
 clear hds2 hbx RZ RF b3 e0 e1 e2 e3 hr1 hK
 by_cases hhk : hh.k = 3
 case neg =>
  have hkb : (hh.k != 3) = true := by rw [bne_iff_ne]; exact hhk
  have HR2 := Lib.hid (show callF m.pl (rec ls) (hh :: rest) = r from by rw [<- HR.out]; exact (form_call HK4.out HDD.out (Or.inl hhk)).symm)
  clear hhk
  go_wp2_with fail
  refine (HCALL.out _ (Below.refl _ _)).mono ?_
  intro e w1 hpost
  rw [HR2.out] at hpost
  cases r with
  | ok x =>
   obtain ⟨v1, rfl, ht, hlo, hhi, hok, hb1⟩ := hpost
   have hb1 : Below wc.heap.size wc w1 := (by first | exact hb1 | exact (below_drewN (Below.refl _ _) _).trans hb1)
   have hlo : v1.lo = wc.heap.size := hlo
   obtain ⟨g5, g6⟩ := bcell hb1
   have HP := Lib.hid (fun w' hg => got_copyG (w := w) (w' := w') (g := w.heap.size + 1) ht (by rw [hlo]; exact hsc1) (by rw [hhi]; exact Nat.le_refl _) hok (HBC.out.trans (hb1.mono HBC.out.size)) (by omega) hg)
   have RZ1 : ∀ j, w1.cell? ⟨w.heap.size + 1, j, none⟩ = (#[.int .i64 0, .int .i64 0, .int .i64 0, .string ⟨#[]⟩, .slice none 0 0, .string ⟨#[]⟩, .int .i64 0, .slice none 0 0, .slice none 0 0] : Array Value)[j]? := fun j => (g5 _ j hsc1).trans (RZC j)
   have RF1 : ∀ j, w1.frozen? ⟨w.heap.size + 1, j, none⟩ = false := fun j => (g6 _ j hsc1).trans (RFC j)
   clear hb1 ht hlo hhi hok g5 g6
   unfold EV.agg
   go_wp2_with fail
   exact bodyPost_ret (v := v1.agg) (by simp [results, Tryd.results44, go_sem, EV.agg, RZ1]) rfl (HP.out _ (za1 _ _ _ _ _ _ _ _ _ _ _))
  | err cc =>
   obtain ⟨v1, rfl, hc1, hF1, hg1⟩ := hpost
   have hg1 : wc.grownBy w1 (some m.F) := (by first | exact hg1 | exact (zb (below_drewN (Below.refl _ _) _) _).trans hg1)
   obtain ⟨g5, g6⟩ := gcell hg1
   have HP := Lib.hid (fun w' hg => bad_anyG (w' := w') (g := w.heap.size + 1) H.out hF1 ((zb HBC.out _).trans hg1) hc1 v1 (by omega) hg)
   have RZ1 : ∀ j, w1.cell? ⟨w.heap.size + 1, j, none⟩ = (#[.int .i64 0, .int .i64 0, .int .i64 0, .string ⟨#[]⟩, .slice none 0 0, .string ⟨#[]⟩, .int .i64 0, .slice none 0 0, .slice none 0 0] : Array Value)[j]? := fun j => (g5 _ j hsc1 hneF).trans (RZC j)
   have RF1 : ∀ j, w1.frozen? ⟨w.heap.size + 1, j, none⟩ = false := fun j => (g6 _ j hsc1 hneF).trans (RFC j)
   clear hg1 hF1 hc1 g5 g6
   unfold EV.agg
   go_wp2_with fail
   exact bodyPost_ret (v := v1.agg) (by simp [results, Tryd.results44, go_sem, EV.agg, RZ1]) rfl (HP.out _ (za1 _ _ _ _ _ _ _ _ _ _ _))
 have hkb : (hh.k != 3) = false := by rw [bne_eq_false_iff_eq]; exact hhk
 go_wp2_with fail
 refine (containsSc_any hh.s B ls.length bc ls _ HSS.out.cap_ HSS.out.le HSS.out.strs).mono ?_
 rintro e w1' ⟨rfl, rfl⟩
 cases hin : inL ls hh.s
 case true =>
  have HR2 := Lib.hid (show callF m.pl (rec ls) (hh :: rest) = r from by rw [<- HR.out]; exact (form_call HK4.out HDD.out (Or.inr hin)).symm)
  clear hhk hin
  go_wp2_with fail
  refine (HCALL.out _ (Below.refl _ _)).mono ?_
  intro e w1 hpost
  rw [HR2.out] at hpost
  cases r with
  | ok x =>
   obtain ⟨v1, rfl, ht, hlo, hhi, hok, hb1⟩ := hpost
   have hb1 : Below wc.heap.size wc w1 := (by first | exact hb1 | exact (below_drewN (Below.refl _ _) _).trans hb1)
   have hlo : v1.lo = wc.heap.size := hlo
   obtain ⟨g5, g6⟩ := bcell hb1
   have HP := Lib.hid (fun w' hg => got_copyG (w := w) (w' := w') (g := w.heap.size + 1) ht (by rw [hlo]; exact hsc1) (by rw [hhi]; exact Nat.le_refl _) hok (HBC.out.trans (hb1.mono HBC.out.size)) (by omega) hg)
   have RZ1 : ∀ j, w1.cell? ⟨w.heap.size + 1, j, none⟩ = (#[.int .i64 0, .int .i64 0, .int .i64 0, .string ⟨#[]⟩, .slice none 0 0, .string ⟨#[]⟩, .int .i64 0, .slice none 0 0, .slice none 0 0] : Array Value)[j]? := fun j => (g5 _ j hsc1).trans (RZC j)
   have RF1 : ∀ j, w1.frozen? ⟨w.heap.size + 1, j, none⟩ = false := fun j => (g6 _ j hsc1).trans (RFC j)
   clear hb1 ht hlo hhi hok g5 g6
   unfold EV.agg
   go_wp2_with fail
   exact bodyPost_ret (v := v1.agg) (by simp [results, Tryd.results44, go_sem, EV.agg, RZ1]) rfl (HP.out _ (za1 _ _ _ _ _ _ _ _ _ _ _))
  | err cc =>
   obtain ⟨v1, rfl, hc1, hF1, hg1⟩ := hpost
   have hg1 : wc.grownBy w1 (some m.F) := (by first | exact hg1 | exact (zb (below_drewN (Below.refl _ _) _) _).trans hg1)
   obtain ⟨g5, g6⟩ := gcell hg1
   have HP := Lib.hid (fun w' hg => bad_anyG (w' := w') (g := w.heap.size + 1) H.out hF1 ((zb HBC.out _).trans hg1) hc1 v1 (by omega) hg)
   have RZ1 : ∀ j, w1.cell? ⟨w.heap.size + 1, j, none⟩ = (#[.int .i64 0, .int .i64 0, .int .i64 0, .string ⟨#[]⟩, .slice none 0 0, .string ⟨#[]⟩, .int .i64 0, .slice none 0 0, .slice none 0 0] : Array Value)[j]? := fun j => (g5 _ j hsc1 hneF).trans (RZC j)
   have RF1 : ∀ j, w1.frozen? ⟨w.heap.size + 1, j, none⟩ = false := fun j => (g6 _ j hsc1 hneF).trans (RFC j)
   clear hg1 hF1 hc1 g5 g6
   unfold EV.agg
   go_wp2_with fail
   exact bodyPost_ret (v := v1.agg) (by simp [results, Tryd.results44, go_sem, EV.agg, RZ1]) rfl (HP.out _ (za1 _ _ _ _ _ _ _ _ _ _ _))
 have HNC := Lib.hid (show ¬ (hh.k ≠ 3 \/ inL ls hh.s = true) from fun h => h.elim (fun h => h hhk) (fun h => by rw [hin] at h; cases h))
 clear hhk hin
 obtain ⟨bm, hc1, _, _, hl1⟩ := HFC.out.umaps.kw
 obtain ⟨bm2, hc2, _, _, hl2⟩ := HFC.out.umaps.ar
 have k1 := hl1 wc rfl hh.s hhs
 have k2 := hl2 wc rfl hh.s hhs
 clear hl1 hl2
 generalize hnn : (if primN hh.s.toList < 0 then 0 else primN hh.s.toList) = nn at k2
 generalize hp : decide (0 <= primN hh.s.toList) = pr at k2
 have HNN := Lib.hid hnn
 have HPR := Lib.hid hp
 clear hnn hp
 cases hkw : isKw hh.s.toList
 all_goals rw [hkw] at k1
 case true =>
  have HR2 := Lib.hid (show wordF m.pl rec ls hh.s.toList rest = r from by rw [<- HR.out]; exact (form_word HK4.out HDD.out HNC.out hkw).symm)
  have HSP := Lib.hid (show Calls Tryd.prog 67 #[.pointer (some ⟨m.F, 0, none⟩), .string hh.s, .slice R K rc, .slice B ls.length bc] wc (ExPost W0 wc m (wordF m.pl rec ls hh.s.toList rest)) from by rw [<- HKK.out]; exact special_any HE.out HLT.out HFC.out hh.s hkw R rc rest HDR.out HGR.out (by rw [HKK.out]; exact hK1) B bc ls HSS.out hls)
  clear hkw
  go_wp2_with fail
  refine HSP.out.mono ?_
  intro e w1 hpost
  rw [HR2.out] at hpost
  cases r with
  | ok x =>
   obtain ⟨v1, rfl, ht, hlo, hhi, hok, hb1⟩ := hpost
   have hb1 : Below wc.heap.size wc w1 := (by first | exact hb1 | exact (below_drewN (Below.refl _ _) _).trans hb1)
   have hlo : v1.lo = wc.heap.size := hlo
   obtain ⟨g5, g6⟩ := bcell hb1
   have HP := Lib.hid (fun w' hg => got_copyG (w := w) (w' := w') (g := w.heap.size + 1) ht (by rw [hlo]; exact hsc1) (by rw [hhi]; exact Nat.le_refl _) hok (HBC.out.trans (hb1.mono HBC.out.size)) (by omega) hg)
   have RZ1 : ∀ j, w1.cell? ⟨w.heap.size + 1, j, none⟩ = (#[.int .i64 0, .int .i64 0, .int .i64 0, .string ⟨#[]⟩, .slice none 0 0, .string ⟨#[]⟩, .int .i64 0, .slice none 0 0, .slice none 0 0] : Array Value)[j]? := fun j => (g5 _ j hsc1).trans (RZC j)
   have RF1 : ∀ j, w1.frozen? ⟨w.heap.size + 1, j, none⟩ = false := fun j => (g6 _ j hsc1).trans (RFC j)
   clear hb1 ht hlo hhi hok g5 g6
   unfold EV.agg
   go_wp2_with fail
   exact bodyPost_ret (v := v1.agg) (by simp [results, Tryd.results44, go_sem, EV.agg, RZ1]) rfl (HP.out _ (za1 _ _ _ _ _ _ _ _ _ _ _))
  | err cc =>
   obtain ⟨v1, rfl, hc1, hF1, hg1⟩ := hpost
   have hg1 : wc.grownBy w1 (some m.F) := (by first | exact hg1 | exact (zb (below_drewN (Below.refl _ _) _) _).trans hg1)
   obtain ⟨g5, g6⟩ := gcell hg1
   have HP := Lib.hid (fun w' hg => bad_anyG (w' := w') (g := w.heap.size + 1) H.out hF1 ((zb HBC.out _).trans hg1) hc1 v1 (by omega) hg)
   have RZ1 : ∀ j, w1.cell? ⟨w.heap.size + 1, j, none⟩ = (#[.int .i64 0, .int .i64 0, .int .i64 0, .string ⟨#[]⟩, .slice none 0 0, .string ⟨#[]⟩, .int .i64 0, .slice none 0 0, .slice none 0 0] : Array Value)[j]? := fun j => (g5 _ j hsc1 hneF).trans (RZC j)
   have RF1 : ∀ j, w1.frozen? ⟨w.heap.size + 1, j, none⟩ = false := fun j => (g6 _ j hsc1 hneF).trans (RFC j)
   clear hg1 hF1 hc1 g5 g6
   unfold EV.agg
   go_wp2_with fail
   exact bodyPost_ret (v := v1.agg) (by simp [results, Tryd.results44, go_sem, EV.agg, RZ1]) rfl (HP.out _ (za1 _ _ _ _ _ _ _ _ _ _ _))
 have HKW := Lib.hid hkw
 clear hkw
 cases pr
 case false =>
  have hpn : ¬ 0 <= primN hh.s.toList := of_decide_eq_false HPR.out
  have HEL := Lib.hid (show r = (if m.pl.up = true then .err 15 else if inL m.pl.globals hh.s = true then callF m.pl (rec ls) (hh :: rest) else recF (rec ls) hh.s rest m.pl.shapes) from by rw [<- HR.out]; exact form_else HK4.out HDD.out HNC.out HKW.out hpn)
  clear hpn
  obtain ⟨up, hup⟩ : ∃ up, m.up = up := ⟨_, rfl⟩
  rw [hup] at cc3
  have HUP := Lib.hid (show m.pl.up = up from hup)
  clear hup
  cases up
  case true =>
   obtain rfl : r = .err 15 := by rw [HEL.out, if_pos HUP.out]
   go_wp2_with fail
   refine (ze HFC.out 15).mono ?_
   rintro e w2 ⟨rfl, hF, hg⟩
   obtain ⟨g5, g6⟩ := gcell hg
   have HP := Lib.hid (fun w' hg' => bad_anyG (w' := w') (g := w.heap.size + 1) H.out hF ((zb HBC.out _).trans hg) (by decide) evz (by omega) hg')
   have RZ1 : ∀ j, w2.cell? ⟨w.heap.size + 1, j, none⟩ = (#[.int .i64 0, .int .i64 0, .int .i64 0, .string ⟨#[]⟩, .slice none 0 0, .string ⟨#[]⟩, .int .i64 0, .slice none 0 0, .slice none 0 0] : Array Value)[j]? := fun j => (g5 _ j hsc1 hneF).trans (RZC j)
   have RF1 : ∀ j, w2.frozen? ⟨w.heap.size + 1, j, none⟩ = false := fun j => (g6 _ j hsc1 hneF).trans (RFC j)
   clear hF hg g5 g6
   unfold evz EV.agg
   go_wp2_with fail
   exact bodyPost_ret (v := evz.agg) (by simp [results, Tryd.results44, go_sem, evz, EV.agg, RZ1]) rfl (HP.out _ (za1 _ _ _ _ _ _ _ _ _ _ _))
  cases hgl : inL m.gs hh.s
  case true =>
   have HCT := Lib.hid (fun w' hst => contains_true (s := hh.s) m.G m.gl m.gc m.gs w' H.out.gcap H.out.gle hst hgl)
   have HGS := Lib.hid HFC.out.g
   have HR2 := Lib.hid (show callF m.pl (rec ls) (hh :: rest) = r from by rw [HEL.out, if_neg (by rw [HUP.out]; simp), if_pos (show inL m.pl.globals hh.s = true from hgl)])
   clear hgl
   go_wp2_with fail
   go_quiet ((go_at_call 11; exact zr (HCT.out _ (HGS.out.below (below_drewN (Below.refl _ _) _)))))
   go_wp2_with fail
   refine (HCALL.out _ (below_drewN (Below.refl _ _) _)).mono ?_
   intro e w1 hpost
   rw [HR2.out] at hpost
   cases r with
   | ok x =>
    obtain ⟨v1, rfl, ht, hlo, hhi, hok, hb1⟩ := hpost
    have hb1 : Below wc.heap.size wc w1 := (by first | exact hb1 | exact (below_drewN (Below.refl _ _) _).trans hb1)
    have hlo : v1.lo = wc.heap.size := hlo
    obtain ⟨g5, g6⟩ := bcell hb1
    have HP := Lib.hid (fun w' hg => got_copyG (w := w) (w' := w') (g := w.heap.size + 1) ht (by rw [hlo]; exact hsc1) (by rw [hhi]; exact Nat.le_refl _) hok (HBC.out.trans (hb1.mono HBC.out.size)) (by omega) hg)
    have RZ1 : ∀ j, w1.cell? ⟨w.heap.size + 1, j, none⟩ = (#[.int .i64 0, .int .i64 0, .int .i64 0, .string ⟨#[]⟩, .slice none 0 0, .string ⟨#[]⟩, .int .i64 0, .slice none 0 0, .slice none 0 0] : Array Value)[j]? := fun j => (g5 _ j hsc1).trans (RZC j)
    have RF1 : ∀ j, w1.frozen? ⟨w.heap.size + 1, j, none⟩ = false := fun j => (g6 _ j hsc1).trans (RFC j)
    clear hb1 ht hlo hhi hok g5 g6
    unfold EV.agg
    go_wp2_with fail
    exact bodyPost_ret (v := v1.agg) (by simp [results, Tryd.results44, go_sem, EV.agg, RZ1]) rfl (HP.out _ (za1 _ _ _ _ _ _ _ _ _ _ _))
   | err cc =>
    obtain ⟨v1, rfl, hc1, hF1, hg1⟩ := hpost
    have hg1 : wc.grownBy w1 (some m.F) := (by first | exact hg1 | exact (zb (below_drewN (Below.refl _ _) _) _).trans hg1)
    obtain ⟨g5, g6⟩ := gcell hg1
    have HP := Lib.hid (fun w' hg => bad_anyG (w' := w') (g := w.heap.size + 1) H.out hF1 ((zb HBC.out _).trans hg1) hc1 v1 (by omega) hg)
    have RZ1 : ∀ j, w1.cell? ⟨w.heap.size + 1, j, none⟩ = (#[.int .i64 0, .int .i64 0, .int .i64 0, .string ⟨#[]⟩, .slice none 0 0, .string ⟨#[]⟩, .int .i64 0, .slice none 0 0, .slice none 0 0] : Array Value)[j]? := fun j => (g5 _ j hsc1 hneF).trans (RZC j)
    have RF1 : ∀ j, w1.frozen? ⟨w.heap.size + 1, j, none⟩ = false := fun j => (g6 _ j hsc1 hneF).trans (RFC j)
    clear hg1 hF1 hc1 g5 g6
    unfold EV.agg
    go_wp2_with fail
    exact bodyPost_ret (v := v1.agg) (by simp [results, Tryd.results44, go_sem, EV.agg, RZ1]) rfl (HP.out _ (za1 _ _ _ _ _ _ _ _ _ _ _))
  have HCT := Lib.hid (fun w' hst => contains_false (s := hh.s) m.G m.gl m.gc m.gs w' H.out.gcap H.out.gle hst hgl)
  have HGS := Lib.hid HFC.out.g
  have HR2 := Lib.hid (show recF (rec ls) hh.s rest m.pl.shapes = r from by rw [HEL.out, if_neg (by rw [HUP.out]; simp), if_neg (show ¬ inL m.pl.globals hh.s = true from fun h => by rw [show inL m.pl.globals hh.s = false from hgl] at h; cases h)])
  have HRC := Lib.hid (show ∀ W : World, Below wc.heap.size wc W -> Calls Tryd.prog 69 #[.pointer (some ⟨m.F, 0, none⟩), .string hh.s, .slice R K rc, .slice B ls.length bc] W (ExPost W0 W m (recF (rec ls) hh.s rest m.pl.shapes)) from fun W hW => by rw [<- HKK.out]; exact record_any HE.out (HFC.out.next hW) hh.s hhs R rc rest (HDR.out.below hW) HGR.out (by rw [HKK.out]; exact hK1) B bc ls (HSS.out.below hW) hls HFD.out)
  clear hgl
  go_wp2_with fail
  go_quiet ((go_at_call 11; exact zr (HCT.out _ (HGS.out.below (below_drewN (Below.refl _ _) _)))))
  go_wp2_with fail
  refine (HRC.out _ (below_drewN (Below.refl _ _) _)).mono ?_
  intro e w1 hpost
  rw [HR2.out] at hpost
  cases r with
  | ok x =>
   obtain ⟨v1, rfl, ht, hlo, hhi, hok, hb1⟩ := hpost
   have hb1 : Below wc.heap.size wc w1 := (by first | exact hb1 | exact (below_drewN (Below.refl _ _) _).trans hb1)
   have hlo : v1.lo = wc.heap.size := hlo
   obtain ⟨g5, g6⟩ := bcell hb1
   have HP := Lib.hid (fun w' hg => got_copyG (w := w) (w' := w') (g := w.heap.size + 1) ht (by rw [hlo]; exact hsc1) (by rw [hhi]; exact Nat.le_refl _) hok (HBC.out.trans (hb1.mono HBC.out.size)) (by omega) hg)
   have RZ1 : ∀ j, w1.cell? ⟨w.heap.size + 1, j, none⟩ = (#[.int .i64 0, .int .i64 0, .int .i64 0, .string ⟨#[]⟩, .slice none 0 0, .string ⟨#[]⟩, .int .i64 0, .slice none 0 0, .slice none 0 0] : Array Value)[j]? := fun j => (g5 _ j hsc1).trans (RZC j)
   have RF1 : ∀ j, w1.frozen? ⟨w.heap.size + 1, j, none⟩ = false := fun j => (g6 _ j hsc1).trans (RFC j)
   clear hb1 ht hlo hhi hok g5 g6
   unfold EV.agg
   go_wp2_with fail
   exact bodyPost_ret (v := v1.agg) (by simp [results, Tryd.results44, go_sem, EV.agg, RZ1]) rfl (HP.out _ (za1 _ _ _ _ _ _ _ _ _ _ _))
  | err cc =>
   obtain ⟨v1, rfl, hc1, hF1, hg1⟩ := hpost
   have hg1 : wc.grownBy w1 (some m.F) := (by first | exact hg1 | exact (zb (below_drewN (Below.refl _ _) _) _).trans hg1)
   obtain ⟨g5, g6⟩ := gcell hg1
   have HP := Lib.hid (fun w' hg => bad_anyG (w' := w') (g := w.heap.size + 1) H.out hF1 ((zb HBC.out _).trans hg1) hc1 v1 (by omega) hg)
   have RZ1 : ∀ j, w1.cell? ⟨w.heap.size + 1, j, none⟩ = (#[.int .i64 0, .int .i64 0, .int .i64 0, .string ⟨#[]⟩, .slice none 0 0, .string ⟨#[]⟩, .int .i64 0, .slice none 0 0, .slice none 0 0] : Array Value)[j]? := fun j => (g5 _ j hsc1 hneF).trans (RZC j)
   have RF1 : ∀ j, w1.frozen? ⟨w.heap.size + 1, j, none⟩ = false := fun j => (g6 _ j hsc1 hneF).trans (RFC j)
   clear hg1 hF1 hc1 g5 g6
   unfold EV.agg
   go_wp2_with fail
   exact bodyPost_ret (v := v1.agg) (by simp [results, Tryd.results44, go_sem, EV.agg, RZ1]) rfl (HP.out _ (za1 _ _ _ _ _ _ _ _ _ _ _))
 have hpn : 0 <= primN hh.s.toList := of_decide_eq_true HPR.out
 have hnn : nn = primN hh.s.toList := by rw [<- HNN.out, if_neg (by omega)]
 have HPL := Lib.hid (show r = (if primN hh.s.toList = rest.length then mapF (eK 10 hh.s) (allF (rec ls) rest) else .err 10) from by rw [<- HR.out]; exact form_prim HK4.out HDD.out HNC.out HKW.out hpn)
 by_cases hcn : nn = (K : Int)
 case neg =>
  have hnb : (nn != (K : Int)) = true := by rw [bne_iff_ne]; exact hcn
  have HER := Lib.hid (show r = .err 10 from by rw [HPL.out, if_neg (by rw [<- hnn, HKK.out]; exact hcn)])
  clear hcn hnn hpn
  obtain rfl : r = .err 10 := HER.out
  go_wp2_with fail
  refine (ze HFC.out 10).mono ?_
  rintro e w2 ⟨rfl, hF, hg⟩
  obtain ⟨g5, g6⟩ := gcell hg
  have HP := Lib.hid (fun w' hg' => bad_anyG (w' := w') (g := w.heap.size + 1) H.out hF ((zb HBC.out _).trans hg) (by decide) evz (by omega) hg')
  have RZ1 : ∀ j, w2.cell? ⟨w.heap.size + 1, j, none⟩ = (#[.int .i64 0, .int .i64 0, .int .i64 0, .string ⟨#[]⟩, .slice none 0 0, .string ⟨#[]⟩, .int .i64 0, .slice none 0 0, .slice none 0 0] : Array Value)[j]? := fun j => (g5 _ j hsc1 hneF).trans (RZC j)
  have RF1 : ∀ j, w2.frozen? ⟨w.heap.size + 1, j, none⟩ = false := fun j => (g6 _ j hsc1 hneF).trans (RFC j)
  clear hF hg g5 g6
  unfold evz EV.agg
  go_wp2_with fail
  exact bodyPost_ret (v := evz.agg) (by simp [results, Tryd.results44, go_sem, evz, EV.agg, RZ1]) rfl (HP.out _ (za1 _ _ _ _ _ _ _ _ _ _ _))
 have hnb : (nn != (K : Int)) = false := by rw [bne_eq_false_iff_eq]; exact hcn
 obtain ⟨r3, hr3⟩ : ∃ r3, allF (rec ls) rest = r3 := ⟨_, rfl⟩
 have HRR := Lib.hid (show r = mapF (eK 10 hh.s) r3 from by rw [HPL.out, if_pos (by rw [<- hnn, HKK.out]; exact hcn), hr3])
 have HXS := Lib.hid (show ∀ W : World, Below wc.heap.size wc W -> Calls Tryd.prog 68 #[.pointer (some ⟨m.F, 0, none⟩), .slice R K rc, .slice B ls.length bc] W (XsTwo W0 W m K r3) from fun W hW => by
  have := exprs_two HE.out R rc rest (HDR.out.below hW) HGR.out (by rw [HKK.out]; exact hK1) B bc ls (HSS.out.below hW) hls (Or.inl ⟨HFC.out.next hW, hr3⟩)
  rwa [HKK.out] at this)
 clear hcn hnn hpn hr3
 go_upto_region 20 with fail
 go_region_held3 (fun w' => w'.cell? ⟨q, 2, none⟩ = some (.string hh.s)) (go_keep)
  (first | (go_at_call 68; refine (HXS.out _ (by first | exact Below.refl _ _ | exact (Below.refl _ _).drew)).mono ?_; rintro e w3 ⟨A3, cp3, rfl, hle3, hg3, hx3⟩; have m0 : w3.cell? ⟨q, 2, none⟩ = some (.string hh.s) := ((gcell hg3).1 q 2 (by first | exact hqx | (simp; omega)) hqF).trans (by first | exact q2 | simpa using q2); have hg3' : wc.grownBy w3 (some m.F) := (by first | exact hg3 | exact (zb (Below.refl _ _).drew _).trans hg3); obtain ⟨g5, g6⟩ := gcell hg3'; have RZ1 : ∀ j, w3.cell? ⟨w.heap.size + 1, j, none⟩ = (#[.int .i64 0, .int .i64 0, .int .i64 0, .string ⟨#[]⟩, .slice none 0 0, .string ⟨#[]⟩, .int .i64 0, .slice none 0 0, .slice none 0 0] : Array Value)[j]? := fun j => (g5 _ j hsc1 hneF).trans (RZC j); have RF1 : ∀ j, w3.frozen? ⟨w.heap.size + 1, j, none⟩ = false := fun j => (g6 _ j hsc1 hneF).trans (RFC j); have HFIN := Lib.hid (fun w' hg => prim_fin (w' := w') (k := 10) (S := hh.s) (g := w.heap.size + 1) H.out (by first | exact HBC.out | exact HBC.out.drew) (by first | exact hsc1 | (simp; omega)) (by omega) hg3 hx3 hg); clear hg3 hx3 hg3' g5 g6))
 go_wp2_with fail
 exact bodyPost_ret (v := .agg #[.int .i64 10, .int .i64 0, .int .i64 0, .string ⟨#[]⟩, .slice none 0 0, .string hh.s, .int .i64 0, .slice none 0 0, .slice A3 K cp3]) (by simp [results, Tryd.results44, go_sem, RZ1]) rfl (by rw [HRR.out]; exact HFIN.out _ (za1 _ _ _ _ _ _ _ _ _ _ _))
end Go.Proofs.YtjmeodadkjcmmaaDoor
