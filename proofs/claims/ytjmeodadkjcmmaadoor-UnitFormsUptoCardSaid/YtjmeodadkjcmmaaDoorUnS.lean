import Derived.Test.YtjmeodadkjcmmaaDoorUnD
namespace Go.Proofs.YtjmeodadkjcmmaaDoor
open Go.RowKit Go.ChangeShapes Go.WideShapes Go.Deep Go.ChangeAt
set_option linter.unusedVariables false
set_option maxRecDepth 20000
def thnOf (n : Nat) : Code -> Option Code
 | .cond c t e => match c with
  | .tmp m => if m = n then some (.cond c t e) else match thnOf n t with
   | some x => some x
   | none => thnOf n e
  | _ => none
 | .seq a b => match thnOf n a with
  | some x => some x
  | none => thnOf n b
 | .block _ b => thnOf n b
 | .loop b => thnOf n b
 | .scope b => thnOf n b
 | _ => none
def DPost (W0 w5 : World) (B3 : Nat) (m : Fm) (U : Nat) (vS vP : Value) (S : List NE) (D : List DfV) (P : List UpV) (n2 : ByteArray) (rx : Fd Ex) (v7 : Value) (w' : World) : Prop :=
 ∃ (c : Int) (v : EV), v7 = .int .i64 c /\ DMid W0 w5 B3 m U vS vP S (∃ y, rx = .ok y) (D ++ [⟨n2, v⟩]) P w' /\ ((∃ y, rx = .ok y /\ c = 0 /\ v.t = y) \/ (rx = .err c /\ 1 <= c))
def DInv (R : Value -> World -> Prop) (U p : Nat) (s : ByteArray) (A1 : Option Addr) (J c1 : Nat) (u0 u1 u2 u3 u4 u5 u6 u7 u8 u10 u11 u12 u13 u14 u15 u16 u18 u19 u22 u23 u24 u25 u26 u27 u28 u29 u30 u31 u32 u33 u34 u35 u36 u37 u38 u39 u40 u41 u42 u43 u44 u45 u46 u47 u48 u49 u50 u51 u52 u53 u54 u55 u56 u57 u58 u59 u60 u61 u62 u63 u64 u65 u66 u67 u68 u69 u70 u71 u72 u73 u74 u75 u76 u77 u78 u79 u80 u81 u82 u83 u84 u85 u86 u87 u88 u89 u90 u91 u92 u93 u94 u95 u96 u97 u98 u99 u100 u101 u102 u103 u104 u105 u106 u107 u108 u109 u110 u111 u112 u113 u114 u115 u116 u117 u118 u119 u120 u121 u122 u123 u124 u125 u126 u127 u128 u129 u130 u131 u132 u133 u134 u135 u136 u137 u138 u139 u140 u141 u142 u143 u144 u145 u146 u147 u148 u149 u150 u151 u152 u153 u154 u155 u156 u157 u158 u159 u160 u161 u162 u163 u164 u165 u166 u167 u168 u169 u170 u171 u173 u174 u175 u176 u177 u178 u179 u180 u181 u182 u183 u184 u185 u186 u187 u188 u189 u190 u191 u192 u193 u194 u195 u196 u197 u198 u199 u200 u201 u202 u203 u204 u205 u206 u207 u208 u209 u210 u211 u212 u213 u214 u215 u216 u217 u218 u219 u220 u221 u222 u223 u224 u225 u226 u227 u228 u229 u230 u231 u232 u233 u234 u235 u236 u237 u238 u239 u240 u241 u242 u243 : Value) (a' : Act) (w' : World) : Prop := ∃ (x7 x22 x23 x24 x173 x174 x175 x176 x177 x178 x179 x180 x181 x182 x183 x184 x185 x186 x187 x188 x189 x190 x191 x192 x193 x194 x195 x196 x197 x198 x199 x200 x201 x202 x203 x204 x205 x206 x207 x208 x209 x210 x211 x212 x213 x214 x215 x216 x217 x218 x219 x220 x221 : Value), R x7 w' /\ a' = ⟨List.toArray (u0 :: u1 :: u2 :: u3 :: u4 :: u5 :: u6 :: x7 :: u8 :: .pointer (some ⟨U, 0, none⟩) :: u10 :: u11 :: u12 :: u13 :: u14 :: u15 :: u16 :: .pointer (some ⟨p, 0, none⟩) :: u18 :: u19 :: .string s :: .slice A1 J c1 :: x22 :: x23 :: x24 :: u25 :: u26 :: u27 :: u28 :: u29 :: u30 :: u31 :: u32 :: u33 :: u34 :: u35 :: u36 :: u37 :: u38 :: u39 :: u40 :: u41 :: u42 :: u43 :: u44 :: u45 :: u46 :: u47 :: u48 :: u49 :: u50 :: u51 :: u52 :: u53 :: u54 :: u55 :: u56 :: u57 :: u58 :: u59 :: u60 :: u61 :: u62 :: u63 :: u64 :: u65 :: u66 :: u67 :: u68 :: u69 :: u70 :: u71 :: u72 :: u73 :: u74 :: u75 :: u76 :: u77 :: u78 :: u79 :: u80 :: u81 :: u82 :: u83 :: u84 :: u85 :: u86 :: u87 :: u88 :: u89 :: u90 :: u91 :: u92 :: u93 :: u94 :: u95 :: u96 :: u97 :: u98 :: u99 :: u100 :: u101 :: u102 :: u103 :: u104 :: u105 :: u106 :: u107 :: u108 :: u109 :: u110 :: u111 :: u112 :: u113 :: u114 :: u115 :: u116 :: u117 :: u118 :: u119 :: u120 :: u121 :: u122 :: u123 :: u124 :: u125 :: u126 :: u127 :: u128 :: u129 :: u130 :: u131 :: u132 :: u133 :: u134 :: u135 :: u136 :: u137 :: u138 :: u139 :: u140 :: u141 :: u142 :: u143 :: u144 :: u145 :: u146 :: u147 :: u148 :: u149 :: u150 :: u151 :: u152 :: u153 :: u154 :: u155 :: u156 :: u157 :: u158 :: u159 :: u160 :: u161 :: u162 :: u163 :: u164 :: u165 :: u166 :: u167 :: u168 :: u169 :: u170 :: u171 :: .bool true :: x173 :: x174 :: x175 :: x176 :: x177 :: x178 :: x179 :: x180 :: x181 :: x182 :: x183 :: x184 :: x185 :: x186 :: x187 :: x188 :: x189 :: x190 :: x191 :: x192 :: x193 :: x194 :: x195 :: x196 :: x197 :: x198 :: x199 :: x200 :: x201 :: x202 :: x203 :: x204 :: x205 :: x206 :: x207 :: x208 :: x209 :: x210 :: x211 :: x212 :: x213 :: x214 :: x215 :: x216 :: x217 :: x218 :: x219 :: x220 :: x221 :: u222 :: u223 :: u224 :: u225 :: u226 :: u227 :: u228 :: u229 :: u230 :: u231 :: u232 :: u233 :: u234 :: u235 :: u236 :: u237 :: u238 :: u239 :: u240 :: u241 :: u242 :: u243 :: []), []⟩
set_option maxHeartbeats 16000000 in
theorem define_arm {W0 w5 : World} {p U B3 : Nat} {A3 A8 : Option Addr} {c3 c8 : Nat} {X3 : List ByteArray} {X8 : List Shp} {PL : Pl} (hW05 : Below W0.heap.size W0 w5) (hPL : zc1 W0 w5 (fmOf p A3 c3 X3 A8 c8 X8) none 0 [])
  (hPC : w5.cell? ⟨p, 0, none⟩ = some (.slice A3 X3.length c3) /\ w5.cell? ⟨p, 1, none⟩ = some (.slice A8 X8.length c8) /\ w5.cell? ⟨p, 2, none⟩ = some (.slice none 0 0) /\ w5.cell? ⟨p, 3, none⟩ = some (.bool false) /\ w5.cell? ⟨p, 4, none⟩ = some (.slice none 0 0)) (hSH : ShortSh (fmOf p A3 c3 X3 A8 c8 X8)) (hPQ : (fmOf p A3 c3 X3 A8 c8 X8).pl = PL)
  {vS vP : Value} {S : List NE} {AD : Option Addr} {cD : Nat} {D : List DfV} {P : List UpV} (hU5 : UnAt W0 w5 B3 (fmOf p A3 c3 X3 A8 c8 X8) U vS (.slice AD D.length cD) vP S True D P) (hUB3 : U < B3) {A1 : Option Addr} {c1 J : Nat} {g : Dt} {gs1 : List Dt} (hDS : DsAt W0 w5 p A1 c1 (g :: gs1)) (hGS : ∀ x ∈ g :: gs1, Good 40 x) (hln : (g :: gs1).length <= 1048576) (hJ : (g :: gs1).length = J) {n2 : ByteArray} (hdf : defT (g :: gs1) = some n2) (hDl : D.length + 1 <= 1048580) {s : ByteArray}
  {u0 u1 u2 u3 u4 u5 u6 u7 u8 u10 u11 u12 u13 u14 u15 u16 u18 u19 u22 u23 u24 u25 u26 u27 u28 u29 u30 u31 u32 u33 u34 u35 u36 u37 u38 u39 u40 u41 u42 u43 u44 u45 u46 u47 u48 u49 u50 u51 u52 u53 u54 u55 u56 u57 u58 u59 u60 u61 u62 u63 u64 u65 u66 u67 u68 u69 u70 u71 u72 u73 u74 u75 u76 u77 u78 u79 u80 u81 u82 u83 u84 u85 u86 u87 u88 u89 u90 u91 u92 u93 u94 u95 u96 u97 u98 u99 u100 u101 u102 u103 u104 u105 u106 u107 u108 u109 u110 u111 u112 u113 u114 u115 u116 u117 u118 u119 u120 u121 u122 u123 u124 u125 u126 u127 u128 u129 u130 u131 u132 u133 u134 u135 u136 u137 u138 u139 u140 u141 u142 u143 u144 u145 u146 u147 u148 u149 u150 u151 u152 u153 u154 u155 u156 u157 u158 u159 u160 u161 u162 u163 u164 u165 u166 u167 u168 u169 u170 u171 u173 u174 u175 u176 u177 u178 u179 u180 u181 u182 u183 u184 u185 u186 u187 u188 u189 u190 u191 u192 u193 u194 u195 u196 u197 u198 u199 u200 u201 u202 u203 u204 u205 u206 u207 u208 u209 u210 u211 u212 u213 u214 u215 u216 u217 u218 u219 u220 u221 u222 u223 u224 u225 u226 u227 u228 u229 u230 u231 u232 u233 u234 u235 u236 u237 u238 u239 u240 u241 u242 u243 : Value} {c : Code} (hc : Tryd.f5.body.bind (thnOf 172) = some c) {J' K' : Act -> World -> Prop} {Q' : Exit -> Act -> World -> Prop}
  (hJ' : ∀ a' w', DInv (DPost W0 w5 B3 (fmOf p A3 c3 X3 A8 c8 X8) U vS vP S D P n2 (defX PL (g :: gs1))) U p s A1 J c1 u0 u1 u2 u3 u4 u5 u6 u7 u8 u10 u11 u12 u13 u14 u15 u16 u18 u19 u22 u23 u24 u25 u26 u27 u28 u29 u30 u31 u32 u33 u34 u35 u36 u37 u38 u39 u40 u41 u42 u43 u44 u45 u46 u47 u48 u49 u50 u51 u52 u53 u54 u55 u56 u57 u58 u59 u60 u61 u62 u63 u64 u65 u66 u67 u68 u69 u70 u71 u72 u73 u74 u75 u76 u77 u78 u79 u80 u81 u82 u83 u84 u85 u86 u87 u88 u89 u90 u91 u92 u93 u94 u95 u96 u97 u98 u99 u100 u101 u102 u103 u104 u105 u106 u107 u108 u109 u110 u111 u112 u113 u114 u115 u116 u117 u118 u119 u120 u121 u122 u123 u124 u125 u126 u127 u128 u129 u130 u131 u132 u133 u134 u135 u136 u137 u138 u139 u140 u141 u142 u143 u144 u145 u146 u147 u148 u149 u150 u151 u152 u153 u154 u155 u156 u157 u158 u159 u160 u161 u162 u163 u164 u165 u166 u167 u168 u169 u170 u171 u173 u174 u175 u176 u177 u178 u179 u180 u181 u182 u183 u184 u185 u186 u187 u188 u189 u190 u191 u192 u193 u194 u195 u196 u197 u198 u199 u200 u201 u202 u203 u204 u205 u206 u207 u208 u209 u210 u211 u212 u213 u214 u215 u216 u217 u218 u219 u220 u221 u222 u223 u224 u225 u226 u227 u228 u229 u230 u231 u232 u233 u234 u235 u236 u237 u238 u239 u240 u241 u242 u243 a' w' -> J' a' w') (hK' : ∀ a' w', Met J' a' w' -> K' a' w') :
  c.wp Tryd.prog (Exit.then K' Q') ⟨List.toArray (u0 :: u1 :: u2 :: u3 :: u4 :: u5 :: u6 :: u7 :: u8 :: .pointer (some ⟨U, 0, none⟩) :: u10 :: u11 :: u12 :: u13 :: u14 :: u15 :: u16 :: .pointer (some ⟨p, 0, none⟩) :: u18 :: u19 :: .string s :: .slice A1 J c1 :: u22 :: u23 :: u24 :: u25 :: u26 :: u27 :: u28 :: u29 :: u30 :: u31 :: u32 :: u33 :: u34 :: u35 :: u36 :: u37 :: u38 :: u39 :: u40 :: u41 :: u42 :: u43 :: u44 :: u45 :: u46 :: u47 :: u48 :: u49 :: u50 :: u51 :: u52 :: u53 :: u54 :: u55 :: u56 :: u57 :: u58 :: u59 :: u60 :: u61 :: u62 :: u63 :: u64 :: u65 :: u66 :: u67 :: u68 :: u69 :: u70 :: u71 :: u72 :: u73 :: u74 :: u75 :: u76 :: u77 :: u78 :: u79 :: u80 :: u81 :: u82 :: u83 :: u84 :: u85 :: u86 :: u87 :: u88 :: u89 :: u90 :: u91 :: u92 :: u93 :: u94 :: u95 :: u96 :: u97 :: u98 :: u99 :: u100 :: u101 :: u102 :: u103 :: u104 :: u105 :: u106 :: u107 :: u108 :: u109 :: u110 :: u111 :: u112 :: u113 :: u114 :: u115 :: u116 :: u117 :: u118 :: u119 :: u120 :: u121 :: u122 :: u123 :: u124 :: u125 :: u126 :: u127 :: u128 :: u129 :: u130 :: u131 :: u132 :: u133 :: u134 :: u135 :: u136 :: u137 :: u138 :: u139 :: u140 :: u141 :: u142 :: u143 :: u144 :: u145 :: u146 :: u147 :: u148 :: u149 :: u150 :: u151 :: u152 :: u153 :: u154 :: u155 :: u156 :: u157 :: u158 :: u159 :: u160 :: u161 :: u162 :: u163 :: u164 :: u165 :: u166 :: u167 :: u168 :: u169 :: u170 :: u171 :: .bool true :: u173 :: u174 :: u175 :: u176 :: u177 :: u178 :: u179 :: u180 :: u181 :: u182 :: u183 :: u184 :: u185 :: u186 :: u187 :: u188 :: u189 :: u190 :: u191 :: u192 :: u193 :: u194 :: u195 :: u196 :: u197 :: u198 :: u199 :: u200 :: u201 :: u202 :: u203 :: u204 :: u205 :: u206 :: u207 :: u208 :: u209 :: u210 :: u211 :: u212 :: u213 :: u214 :: u215 :: u216 :: u217 :: u218 :: u219 :: u220 :: u221 :: u222 :: u223 :: u224 :: u225 :: u226 :: u227 :: u228 :: u229 :: u230 :: u231 :: u232 :: u233 :: u234 :: u235 :: u236 :: u237 :: u238 :: u239 :: u240 :: u241 :: u242 :: u243 :: []), []⟩ w5 := by
 have HW05 := Lib.hid hW05
 have HPL := Lib.hid hPL
 have HPC := Lib.hid hPC
 have HSH := Lib.hid hSH
 have HPQ := Lib.hid hPQ
 have HU5 := Lib.hid hU5
 have HDS := Lib.hid hDS
 have HGS1 := Lib.hid hGS
 have HDF := Lib.hid hdf
 obtain ⟨rx, hrx⟩ : ∃ rx, defX PL (g :: gs1) = rx := ⟨_, rfl⟩
 have HRX := Lib.hid hrx
 rw [hrx] at hJ'
 simp only [Tryd.f5, thnOf, Option.bind_some, reduceIte, Nat.reduceEqDiff, Option.some.injEq] at hc
 subst hc
 refine wp_mono (Q := Exit.then K' (fun _ _ _ => False)) ?_ (fun e a w h => by cases e <;> first | exact h | exact (show False from h).elim)
 clear hW05 hPL hPC hSH hPQ hDS hGS
 obtain ⟨w6, hw6⟩ : ∃ w6, w5.alloc (.cells #[.int .i64 0, .int .i64 0, .int .i64 0, .string ⟨#[]⟩, .slice none 0 0, .string ⟨#[]⟩, .int .i64 0, .slice none 0 0, .slice none 0 0] 63) = w6 := ⟨_, rfl⟩
 have hb56 : Below w5.heap.size w5 w6 := by rw [<- hw6]; exact (Below.refl _ _).alloc (Nat.le_refl _) _
 have hs56 : w5.heap.size + 1 = w6.heap.size := by rw [<- hw6]; simp
 have HW6 := Lib.hid hw6
 have HB56 := Lib.hid hb56
 have hU6 := HU5.out.next hb56
 have hW06 : Below W0.heap.size W0 w6 := HW05.out.trans (hb56.mono HW05.out.size)
 have HW06 := Lib.hid hW06
 have hpge : W0.heap.size <= p := HPL.out.ge
 have hp5 : p < w5.heap.size := HPL.out.lt
 have hpB3 : p < B3 := hU6.ltF
 have hpU : p ≠ U := fun e => hU6.neU e.symm
 have hp6 : p < w6.heap.size := Nat.lt_of_lt_of_le hpB3 hU6.bs
 have HP6 := Lib.hid (HPL.out.next hb56)
 have hpc : ∀ j, w6.cell? ⟨p, j, none⟩ = w5.cell? ⟨p, j, none⟩ := fun j => hb56.cell (p := ⟨p, j, none⟩) hp5
 have HPC6 := Lib.hid (show w6.cell? ⟨p, 0, none⟩ = some (.slice A3 X3.length c3) /\ w6.cell? ⟨p, 1, none⟩ = some (.slice A8 X8.length c8) /\ w6.cell? ⟨p, 2, none⟩ = some (.slice none 0 0) /\ w6.cell? ⟨p, 3, none⟩ = some (.bool false) /\ w6.cell? ⟨p, 4, none⟩ = some (.slice none 0 0) from ⟨(hpc 0).trans HPC.out.1, (hpc 1).trans HPC.out.2.1, (hpc 2).trans HPC.out.2.2.1, (hpc 3).trans HPC.out.2.2.2.1, (hpc 4).trans HPC.out.2.2.2.2⟩)
 have hds6 := HDS.out.below hb56
 have hJc := hds6.le
 have HGG := Lib.hid (HGS1.out g (by simp))
 have KN := Lib.hid (show ∀ W : World, Below w5.heap.size w5 W -> Calls Tryd.prog 19 #[.slice A1 J c1] W (fun e w' => e = .returned (.string n2) /\ Below W.heap.size W w') from fun W hW => by
  have := topName_any (HW05.out.trans (hW.mono HW05.out.size)) hpge A1 c1 g gs1 (HDS.out.below hW) HGG.out hln
  rw [hdf, hJ] at this
  exact this)
 obtain ⟨b, o, A', c', rfl, hbw6, hbF, d0, d1, d2, d3, _, hgi, hgt⟩ := hds6.first hW06 hpge
 have HGI := Lib.hid hgi
 have HGT := Lib.hid hgt
 have HJ := Lib.hid hJ
 obtain ⟨gk, hgk⟩ : ∃ gk, g.k = gk := ⟨_, rfl⟩
 have HGK := Lib.hid hgk
 rw [hgk] at d0
 rw [hJ] at hJc
 have hJ1 : 1 <= J := by rw [<- hJ]; simp
 have hJm : J <= 1048576 := by rw [<- hJ]; exact hln
 have hJ0 : (0 : Int) < (J : Int) := by omega
 have hJ3 : 0 < J := by omega
 have hU5 : U < w5.heap.size := Nat.lt_of_lt_of_le hUB3 HU5.out.bs
 have hB35 := HU5.out.bs
 have HSZ := Lib.hid hs56
 clear hw6 hb56 hW06 hU6 hpc hds6 hgi hgt hJ hgk hdf hrx hs56 hln
 go_upto_region 48 with fail
 rw [HW6.out]
 go_upto_if 178 with fail
 go_cut [7, 23, 24] from 173 to 221 (fun v7 v23 v24 wx => Formed W0 w5 rx (.pointer (some ⟨w5.heap.size, 0, none⟩)) v7 wx)
 case first =>
  obtain ⟨p0, p1, p2, p3, p4⟩ := HPC6.out
  have hs6 := HSZ.out
  rcases defT_view HDF.out with ⟨hk3, hn, y, rfl⟩ | ⟨hk4, g0, ps, y, m, hgl, hn, rfl⟩
  ·
   obtain rfl : gk = 3 := by rw [<- HGK.out]; exact hk3
   obtain rfl : J = 2 := by rw [<- HJ.out]; rfl
   obtain ⟨by_, oy, Ay, cy, hAy, hbyw, _, y0, y1, y2, y3, hdy, _, _⟩ := HGT.out.first HW06.out hpge
   cases hAy
   have KX := Lib.hid (show ∀ W : World, Below w6.heap.size w6 W -> Calls Tryd.prog 23 #[.agg #[.slice A3 X3.length c3, .slice A8 X8.length c8, .slice none 0 0, .bool false, .slice none 0 0], .agg #[.int .i64 y.k, .int .i64 y.n, .string y.s, .slice Ay y.l.length cy]] W (RefPost W0 W rx) from fun W hW => by
    have := formed_says HSH.out 40 W y Ay cy none 0 [] (HP6.out.next hW) (HGS1.out y (by simp)) hdy (by simp)
    rw [HPQ.out, <- defX_sym hk3, HRX.out] at this
    exact this)
   clear hk3 hn hdy
   focus
    go_upto_region 49 with fail
    go_region_law (go_simp; go_at_call 23; refine (KX.out _ (by (with_reducible repeat' (first | exact Below.refl _ _ | apply Below.drew | apply below_drewN | refine Below.alloc ?_ ?_ _)); all_goals (try simp); all_goals (try omega))).mono ?_; intro e w7 hp; obtain ⟨v7, c7, rfl, hb7, hx7⟩ := hp.both; have hb67 := (show Below w6.heap.size w6 _ from (by (with_reducible repeat' (first | exact Below.refl _ _ | apply Below.drew | apply below_drewN | refine Below.alloc ?_ ?_ _)); all_goals (try simp); all_goals (try omega))).trans (hb7.mono (by first | exact Nat.le_refl _ | (simp; done) | omega | (simp; omega))); have hz7 := zero_at (w := w5) (by rw [HW6.out]; exact hb67); have w7z0 := hz7.1 0; have w7z1 := hz7.1 1; have w7z2 := hz7.1 2; have w7z3 := hz7.1 3; have w7z4 := hz7.1 4; have w7z5 := hz7.1 5; have w7z6 := hz7.1 6; have w7z7 := hz7.1 7; have w7z8 := hz7.1 8; have w7f := hz7.2.1; have w7l := hz7.2.2.1; have HB67 := Lib.hid hb67; have HB7 := Lib.hid hb7; have HX7 := Lib.hid hx7; clear hp hb7 hx7 hb67 hz7; unfold EV.agg)
    all_goals (go_wp2_with fail)
    all_goals go_meet
    all_goals exact zl rfl (Below.refl _ _) (by rw [HW6.out]; exact (by (with_reducible repeat' (first | exact Below.refl _ _ | apply Below.drew | apply below_drewN | refine Below.alloc ?_ ?_ _)); all_goals (try simp); all_goals (try omega))) HB7.out HX7.out
  obtain rfl : gk = 4 := by rw [<- HGK.out]; exact hk4
  have hJ2 : 2 <= J := by rw [<- HJ.out]; simp
  obtain ⟨N2, hN2⟩ : ∃ N2, g.l.length = N2 := ⟨_, rfl⟩
  have HNL := Lib.hid (show ps.length = N2 - 1 by rw [<- hN2, hgl]; simp)
  have hN1 : 1 <= N2 := by rw [<- hN2, hgl]; simp
  have hNn : N2 <= 1048576 := by rw [<- hN2]; exact HGG.out.len
  have hNc : N2 <= c' := by rw [<- hN2]; exact HGI.out.le
  have hcim := HGI.out.cap_
  unfold maxLen at hcim
  have hcm := HDS.out.cap_
  unfold maxLen at hcm
  obtain ⟨r0, hr0⟩ : ∃ r0, boundF 4 ps = r0 := ⟨_, rfl⟩
  have HXL := Lib.hid (show rx = lamOf (fun ns => mapF (fun z => .mk 6 dt0 ⟨#[]⟩ 0 ns [z]) (bodyF (formed PL 40) ns (y :: m))) r0 from by rw [<- HRX.out, defX_list hk4 hgl, hr0])
  obtain ⟨bI, oI, Ag, cg, rfl, hbI, _, _, _, _, _, _, _, htg⟩ := (show DsAt W0 w6 p A' c' (g0 :: ps) from by rw [<- hgl]; exact HGI.out).first HW06.out hpge
  have HTG := Lib.hid htg
  have KNG := Lib.hid (show ∀ (q3 cap3 : Nat), DsAt W0 w6 p (some ⟨bI, q3, none⟩) cap3 ps -> Calls Tryd.prog 24 #[.agg #[.int .i64 4, .int .i64 0, .string ⟨#[]⟩, .slice (some ⟨bI, q3, none⟩) (N2 - 1) cap3]] w6 (RefNm w6 r0) from fun q3 cap3 hds => by
   have := boundBy_any HW06.out hpge hp6 4 0 ⟨#[]⟩ (some ⟨bI, q3, none⟩) cap3 ps hds (fun x hx => have hg := HGG.out.low (show x ∈ g.l by rw [hgl]; exact List.mem_cons_of_mem _ hx); ⟨hg.wide, fun hk => hg.name hk⟩)
   rw [hr0, HNL.out] at this
   exact this)
  have HG0 := Lib.hid hr0
  rw [hN2] at d3
  have hM1 : (1 : Int) <= (J : Int) := by omega
  have hM5 : (J : Int) <= (c1 : Int) := by omega
  have hc21 : ¬ c1 = 1 := by omega
  have hN20 : (0 : Int) < (N2 : Int) := by omega
  have hN3 : (1 : Int) <= (N2 : Int) := by omega
  have hN4 : (N2 : Int) <= (c' : Int) := by omega
  have hN5 : 0 < N2 := by omega
  have hw1 : IntKind.i64.wrap 1 = 1 := IntWalk.i64_in _ (by omega)
  clear hk4 hn hgl hN2 htg hr0
  go_upto_region 51 with fail
  go_cut [23, 7] from 196 to 196 (fun v23 v7 wx => NmAt w6 r0 v23 v7 wx)
  case first =>
   by_cases hc1 : c' = 1
   ·
    subst hc1
    obtain rfl : N2 = 1 := by omega
    have KB := Lib.hid (KNG.out oI 0 ⟨by rw [HNL.out]; omega, by unfold maxLen; omega, fun h0 => by rw [HNL.out] at h0; omega⟩)
    go_wp2_with fail
    refine KB.out.mono ?_
    intro e w7 hp
    obtain ⟨v7, c7, rfl, hz7⟩ := hp.both
    have HZ7 := Lib.hid hz7
    clear hp hz7
    go_wp2_with fail
    go_meet
    exact HZ7.out
   have KB := Lib.hid (KNG.out (oI + 4) (c' - 1) HTG.out)
   go_wp2_with fail
   refine KB.out.mono ?_
   intro e w7 hp
   obtain ⟨v7, c7, rfl, hz7⟩ := hp.both
   have HZ7 := Lib.hid hz7
   clear hp hz7
   go_wp2_with fail
   go_meet
   exact HZ7.out
  obtain ⟨w7, hw7⟩ : ∃ w7, w7 = wc := ⟨_, rfl⟩
  rw [<- hw7] at hcut ⊢
  clear hw7
  obtain ⟨hb67, h2⟩ := hcut.parts
  have HB67 := Lib.hid hb67
  clear hcut
  rcases h2 with ⟨ns, nA, nc, hrr, rfl, rfl, hnm⟩ | ⟨c7, hrr, rfl, hc7⟩
  ·
   have h6 := boundF_len (HG0.out.trans hrr)
   obtain ⟨rb, hrb⟩ : ∃ rb, bodyF (formed PL 40) ns (y :: m) = rb := ⟨_, rfl⟩
   have HXR := Lib.hid (show rx = mapF (fun z => .mk 6 dt0 ⟨#[]⟩ 0 ns [z]) rb from by rw [HXL.out, hrr, <- hrb]; rfl)
   have HNM := Lib.hid hnm
   have HRB := Lib.hid hrb
   have hs67 := hb67.size
   have hp7 : p < w7.heap.size := by omega
   obtain ⟨w8, hw8⟩ : ∃ w8, w7.alloc (.cells #[.int .i64 0, .int .i64 0, .int .i64 0, .string ⟨#[]⟩, .slice none 0 0, .string ⟨#[]⟩, .int .i64 0, .slice none 0 0, .slice none 0 0] 63) = w8 := ⟨_, rfl⟩
   have hb78 : Below w7.heap.size w7 w8 := by rw [<- hw8]; exact (Below.refl _ _).alloc (Nat.le_refl _) _
   have hs78 : w7.heap.size + 1 = w8.heap.size := by rw [<- hw8]; simp
   have HW8 := Lib.hid hw8
   have hb68 := hb67.trans (hb78.mono hs67)
   have hpc8 : ∀ j, w8.cell? ⟨p, j, none⟩ = w6.cell? ⟨p, j, none⟩ := fun j => hb68.cell (p := ⟨p, j, none⟩) hp6
   have a0 := (hpc8 0).trans p0
   have a1 := (hpc8 1).trans p1
   have a2 := (hpc8 2).trans p2
   have a3 := (hpc8 3).trans p3
   have a4 := (hpc8 4).trans p4
   have HINS := Lib.hid (show ∀ W : World, Below w8.heap.size w8 W -> Calls Tryd.prog 25 #[.agg #[.slice A3 X3.length c3, .slice A8 X8.length c8, .slice none 0 0, .bool false, .slice none 0 0], .slice nA ns.length nc] W (fun e W' => ∃ B4 bc4, e = .returned (.agg #[.slice A3 X3.length c3, .slice A8 X8.length c8, .slice none 0 0, .bool false, .slice B4 ns.length bc4]) /\ zc1 W0 W' (fmOf p A3 c3 X3 A8 c8 X8) B4 bc4 ns /\ Below W.heap.size W W') from fun W hW => by
    have := inside_any (HP6.out.next (hb68.trans (hW.mono hb68.size))) nA nc ns ((hnm.strs.below hb78).below hW) hnm.cap_ hnm.le (by simp) (by omega)
    unfold InsidePost at this
    rw [List.nil_append] at this
    exact this)
   have HBODY := Lib.hid (show ∀ (W : World) (B4 : Option Addr) (bc4 : Nat), Below w8.heap.size w8 W -> zc1 W0 W (fmOf p A3 c3 X3 A8 c8 X8) B4 bc4 ns -> Calls Tryd.prog 26 #[.agg #[.slice A3 X3.length c3, .slice A8 X8.length c8, .slice none 0 0, .bool false, .slice B4 ns.length bc4], .slice (some ⟨b, o + 4, none⟩) (J - 1) (c1 - 1)] W (RefPost W0 W rb) from fun W B4 bc4 hW hP => by
    have := formedBody_any (formed_says HSH.out 40) (some ⟨b, o + 4, none⟩) (c1 - 1) (y :: m) B4 bc4 ns hP (HGT.out.below (hb68.trans (hW.mono hb68.size))) (fun x hx => HGS1.out x (List.mem_cons_of_mem _ hx)) (by have := HJ.out; simp at this; simp; omega)
    rw [show (y :: m).length = J - 1 by have := HJ.out; simp at this; simp; omega, HPQ.out, HRB.out] at this
    exact this)
   clear hrr hnm hrb hw8 hb78 hb68 hpc8 h6 hb67
   go_upto_region 54 with fail
   rw [HW8.out]
   go_cut [7] from 208 to 208 (fun v7 wx => Formed W0 w7 rb (.pointer (some ⟨w7.heap.size, 0, none⟩)) v7 wx)
   case first =>
    go_region_law (first | (go_simp; go_at_call 25; refine (HINS.out _ (by (with_reducible repeat' (first | exact Below.refl _ _ | apply Below.drew | apply below_drewN | refine Below.alloc ?_ ?_ _)); all_goals (try simp); all_goals (try omega))).mono ?_; rintro e w10 ⟨B4, bc4, rfl, hP4, hb10⟩; have HK10 := Lib.hid ((show Below w8.heap.size w8 _ from (by (with_reducible repeat' (first | exact Below.refl _ _ | apply Below.drew | apply below_drewN | refine Below.alloc ?_ ?_ _)); all_goals (try simp); all_goals (try omega))).trans (hb10.mono (by first | exact Nat.le_refl _ | (simp; done) | omega | (simp; omega)))); have HP4 := Lib.hid hP4; have hl10 := HK10.out.size; clear hP4 hb10) | (go_simp; go_at_call 26; refine (HBODY.out _ _ _ (HK10.out.trans ((show Below w10.heap.size w10 _ from (by (with_reducible repeat' (first | exact Below.refl _ _ | apply Below.drew | apply below_drewN | refine Below.alloc ?_ ?_ _)); all_goals (try simp); all_goals (try omega))).mono hl10)) (HP4.out.next (by (with_reducible repeat' (first | exact Below.refl _ _ | apply Below.drew | apply below_drewN | refine Below.alloc ?_ ?_ _)); all_goals (try simp); all_goals (try omega)))).mono ?_; intro e w11 hp; obtain ⟨v11, c11, rfl, hb11, hx11⟩ := hp.both; have hb8 := (HK10.out.trans ((show Below w10.heap.size w10 _ from (by (with_reducible repeat' (first | exact Below.refl _ _ | apply Below.drew | apply below_drewN | refine Below.alloc ?_ ?_ _)); all_goals (try simp); all_goals (try omega))).mono hl10)); have hz11 := zero_at (w := w7) (by rw [HW8.out]; exact hb8.trans (hb11.mono hb8.size)); have w11z0 := hz11.1 0; have w11z1 := hz11.1 1; have w11z2 := hz11.1 2; have w11z3 := hz11.1 3; have w11z4 := hz11.1 4; have w11z5 := hz11.1 5; have w11z6 := hz11.1 6; have w11z7 := hz11.1 7; have w11z8 := hz11.1 8; have w11f := hz11.2.1; have w11l := hz11.2.2.1; have HB8 := Lib.hid hb8; have HB11 := Lib.hid hb11; have HX11 := Lib.hid hx11; clear hp hb11 hx11 hb8 hz11; unfold EV.agg))
    all_goals (go_wp2_with fail)
    all_goals go_meet
    all_goals exact zl rfl (Below.refl _ _) (by rw [HW8.out]; exact HB8.out) HB11.out HX11.out
   obtain ⟨p', v, c, hp', rfl, _, hE, hbw, hx⟩ := hcut
   obtain rfl : w7.heap.size = p' := by simpa using hp'
   have q0 := hE.c0
   have q1 := hE.c1
   have q2 := hE.c2
   have q3 := hE.c3
   have q4 := hE.c4
   have q5 := hE.c5
   have q6 := hE.c6
   have q7 := hE.c7
   have q8 := hE.c8
   have hplt := hE.lt
   have HX := Lib.hid (show RefFact W0 w7 wc v c rb from by cases rb <;> exact hx)
   have HBW := Lib.hid hbw
   obtain ⟨qz, qf, ql, _⟩ := zero_at (w := w5) (w7 := wc) (by rw [HW6.out]; exact HB67.out.trans (hbw.mono hs67))
   have hnq : wc.heap.size ≠ w5.heap.size := by omega
   have hnq2 : w7.heap.size ≠ w5.heap.size := by omega
   have hqlt : w5.heap.size < wc.heap.size := ql
   clear hE hx hbw hp' a0 a1 a2 a3 a4
   go_wp2_with fail
   go_meet
   rw [HXR.out]
   rw [<- late9s hqlt]
   exact formed_lam (by rw [HW6.out]; exact HB67.out) (by rw [HW6.out]; exact HNM.out) HBW.out HX.out
  focus
   have hcb : (c7 == 0) = false := by rw [beq_eq_false_iff_ne]; omega
   have HXR := Lib.hid (show rx = .err c7 from by rw [HXL.out, hrr]; rfl)
   have HC7 := Lib.hid hc7
   clear hrr hc7 hb67
   go_wp2_with fail
   go_meet
   rw [HXR.out]
   exact formed_zero HC7.out (by rw [HW6.out]; exact HB67.out)
 obtain ⟨Q, v, c, hQ, rfl, _, hE, hbw, hx⟩ := hcut
 obtain rfl : w5.heap.size = Q := by simpa using hQ
 obtain ⟨wz, hwz⟩ : ∃ wz, wz = wc := ⟨_, rfl⟩
 rw [<- hwz] at hE hbw hx ⊢
 clear hwz
 have q0 := hE.c0
 have q1 := hE.c1
 have q2 := hE.c2
 have q3 := hE.c3
 have q4 := hE.c4
 have q5 := hE.c5
 have q6 := hE.c6
 have q7 := hE.c7
 have q8 := hE.c8
 have hplt := hE.lt
 have HX := Lib.hid (show RefFact W0 w5 wz v c rx from by cases rx <;> exact hx)
 have HUZ := Lib.hid (HU5.out.next hbw)
 have HGRZ := Lib.hid (zy.below (base := B3) (U := U) (N := U) hbw HU5.out.bs)
 have z1 : wz.cell? ⟨U, 1, none⟩ = some (.slice AD D.length cD) := HUZ.out.u1
 have hszZ := hbw.size
 have hUz : U < wz.heap.size := by omega
 have hnZ : wz.heap.size ≠ U := by omega
 have HKV := Lib.hid (dfv_if (nm := n2) (base := B3) (u := .slice AD D.length cD) (z := vP) HX.out HU5.out.bs (fun b hb => (HU5.out.oD.row.lt b hb).2) (fun b hb => (HU5.out.oP.row.lt b hb).2))
 have HVB := Lib.hid (show ∀ b, (Value.slice AD D.length cD).ownBlock = some b -> U < b from fun b hb => Nat.lt_of_lt_of_le hUB3 (HU5.out.oD.row.lt b hb).1)
 have HKZ := Lib.hid (show ∀ W : World, Below wz.heap.size wz W -> Calls Tryd.prog 19 #[.slice (some ⟨b, o, none⟩) J c1] W (fun e w' => e = .returned (.string n2) /\ Below W.heap.size W w') from fun W hW => KN.out W (hbw.trans (hW.mono hszZ)))
 clear hE hbw hx hQ
 go_upto_region 56 with fail
 go_region_law (first | (go_simp; go_at_call 19; refine (HKZ.out _ (by (with_reducible repeat' (first | exact Below.refl _ _ | apply Below.drew | apply below_drewN | refine Below.alloc ?_ ?_ _)); all_goals (try simp); all_goals (try omega))).mono ?_; rintro e w10 ⟨rfl, hb10⟩; have hk10 := (show Below wz.heap.size wz _ from (by (with_reducible repeat' (first | exact Below.refl _ _ | apply Below.drew | apply below_drewN | refine Below.alloc ?_ ?_ _)); all_goals (try simp); all_goals (try omega))).trans (hb10.mono (by first | exact Nat.le_refl _ | (simp; done) | omega | (simp; omega))); obtain ⟨g10, _⟩ := bcell hk10; have r1 := (g10 U 1 hUz).trans z1; have r20 := (g10 w5.heap.size 0 hplt).trans q0; have r21 := (g10 w5.heap.size 1 hplt).trans q1; have r22 := (g10 w5.heap.size 2 hplt).trans q2; have r23 := (g10 w5.heap.size 3 hplt).trans q3; have r24 := (g10 w5.heap.size 4 hplt).trans q4; have r25 := (g10 w5.heap.size 5 hplt).trans q5; have r26 := (g10 w5.heap.size 6 hplt).trans q6; have r27 := (g10 w5.heap.size 7 hplt).trans q7; have r28 := (g10 w5.heap.size 8 hplt).trans q8; have r3 := hk10.size; have r4 : w10.heap.size ≠ U := (by omega); have r5 : w10.heap.size ≠ w5.heap.size := (by omega); have r6 : U < w10.heap.size := (by omega); have r7 : w5.heap.size < w10.heap.size := (by omega); have HK10 := Lib.hid hk10; have HU10 := Lib.hid ((HUZ.out.next hk10).weak (q := ∃ y, rx = .ok y) (fun _ => trivial)); clear hk10 hb10 g10) | (refine step_df (W0 := W0) (pp := ∃ y, rx = .ok y) (by rfl) (.tmp 214) (.tmp 219) (by rfl) HU10.out.oD ⟨n2, v⟩ _ rfl (HKV.out.1 _ HK10.out) HKV.out.2.1 HKV.out.2.2.1 (by rfl) (by rfl) hDl HU10.out.bs ?_; intro v9 w11 h5 h6 h7; obtain ⟨A9, c9, h8, _⟩ := h5.form; rw [List.length_append, List.length_singleton] at h8; subst h8; obtain ⟨k9, f9, s9⟩ := row_keep (g := U) h6 r6 (fun b hb => HVB.out b hb); have k91 := (k9 1).trans r1; have f91 := (f9 1).trans (HU10.out.fu 1); have HS9 := Lib.hid (HU10.out.def_ h5 h6 h7 HKV.out.2.2.2); clear h5 h6 h7 k9 f9))
 all_goals (go_wp2_with fail)
 all_goals go_meet
 all_goals exact ⟨_, _, rfl, ⟨_, HS9.out.1, HGRZ.out.trans ((zy.below HK10.out HUZ.out.bs).trans HS9.out.2)⟩, refFact_two HX.out⟩
end Go.Proofs.YtjmeodadkjcmmaaDoor
