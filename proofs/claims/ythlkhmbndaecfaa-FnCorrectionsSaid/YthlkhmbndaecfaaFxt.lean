/- FnCorrections: the code behind the loops, as a theorem of its own (printed by print/fxloop.py). -/
import Derived.Test.YthlkhmbndaecfaaFxw
namespace Go.Proofs.Ythlkhmbndaecfaa
open Go.ChangeShapes Go.WideShapes Go.ChangeAt Go.RowKit

theorem fxNumZ (v : Value) (n : Nat) (M : Int) (w : World) (hv : InB w v n) (hn : n ≤ 1048576) (h0 : 0 ≤ M) (h1 : M ≤ 1048576) :
    Calls Try.prog 15 #[v, .int .i64 M] w fun e w' => ∃ q : Nat, q ≤ 65535 ∧ e = .returned (.int .i64 (q : Int)) ∧ Below w.heap.size w w' := by
  obtain ⟨m, rfl⟩ := Int.eq_ofNat_of_zero_le h0
  exact makeNum_any v n m w hv hn (by omega)
theorem RowAt.len {w : World} {A : Option Addr} {k c : Nat} {xs : List Int} (h : RowAt w A k c xs) : xs.length = k := h.1
set_option maxHeartbeats 4000000 in
set_option maxRecDepth 100000 in
theorem fxTail (w W3 wo : World) (n m b c mc c0 dm : Nat) (A A0 : Option Addr) (rs : List Res) (HX : Hid (Lx ⟨(n : Int), rs⟩ n m)) (h6 : n ≤ 6) (h12 : m ≤ 12) (hn2 : 2 ≤ n) (_hmc : m ≤ c) (_hcc : c ≤ 2 ^ 63 - 1) (hn : mc ≤ 1048576) (_hc : mc ≤ c0) (_hm : c0 ≤ 2 ^ 63 - 1) (HLm : Hid (rs.length = m))
    (C3 : Hid (FxC W3 (.agg #[.int .i64 (n : Int), .slice A m c]) n m rs)) (KQ3 : Hid (∀ W, Below W3.heap.size W3 W → W.cell? ⟨b, 0, none⟩ = some (.int .i64 (n : Int)) ∧ W.cell? ⟨b, 1, none⟩ = some (.slice A m c)))
    (HX3 : Hid (XS w W3 b n A m c rs ∧ InB W3 (.slice A0 mc c0) mc)) (HE3 : Hid (Below w.heap.size w W3)) (_HDl : dm ≤ m) (HDM : Hid (diffs (leadF ⟨(n : Int), rs⟩) m = dm)) (HA : Hid (Below W3.heap.size W3 wo)) (l1 l2 l6 l7 l8 l10 l11 l12 l13 l14 l15 l16 l17 l18 l19 l20 l21 l22 l23 l24 l25 l26 l27 l28 l29 l30 l31 l32 l33 l34 l35 l36 l37 l38 l39 l40 l41 l42 l43 l44 l45 l46 l47 l48 l49 l50 l51 l52 l53 l54 l55 l56 l57 l58 l59 l60 l61 l62 l63 l64 l65 l66 l67 l68 l69 l70 l71 l72 l73 l74 l75 l76 l77 l78 l79 l80 l81 l82 l83 l84 l85 l86 l87 l88 l89 l90 l91 l92 l93 l94 l95 l96 l97 l98 l99 l100 l101 l102 l103 l104 l105 l106 l107 l108 l109 l110 l111 l112 l113 l114 l115 l116 l117 l118 l119 l120 l121 l122 l123 l124 l125 l126 l127 l128 l129 l130 l131 l132 l133 l134 l135 l136 l137 l138 l139 l140 l141 l142 l143 l144 l145 l146 l147 l148 l149 l150 l151 l152 l153 l154 l155 l156 l157 l158 l159 l160 l161 l162 l163 l164 l165 l166 l167 l168 l169 l170 l171 l172 l173 l174 l175 l176 l177 l178 l179 l180 l181 l182 l183 l184 l185 l186 l187 l188 l189 l190 l191 l192 l193 l194 l195 l196 l197 l198 l199 l200 l201 l202 l203 l204 l205 l206 l207 l208 l209 l210 l211 l212 l213 l214 l215 l216 l217 l218 l219 l220 l221 l222 l223 l224 l225 l226 l227 l228 l229 l230 l231 l232 l233 l234 l235 l236 l237 l238 l239 l240 l241 l242 l243 l244 l245 l246 l247 l248 l249 l250 l251 l252 l253 l254 l255 l256 l257 l258 l259 l260 l261 l262 l263 l264 l265 l266 l267 l268 l269 l270 l271 l272 l273 l274 l275 l276 l277 l278 l279 l280 l281 l282 l283 l284 l285 l286 l287 l288 l289 l290 l291 l292 l293 l294 l295 l296 l297 l298 l299 l300 l301 l302 l303 l304 l305 l306 l307 l308 l309 l310 l311 l312 l313 l314 l315 l316 l317 l318 l319 l320 l321 l322 l323 l324 l325 l326 l327 l328 l329 l330 l331 l332 l333 l334 l335 l336 l337 l338 l339 l340 l341 l342 l343 l344 l345 l346 l347 l348 l349 l350 l351 l352 l353 l354 l355 l356 l357 l358 l359 l360 l361 l362 l363 l364 l365 l366 l367 l368 l369 l370 l371 l372 l373 l374 l375 l376 l377 l378 l379 l380 l381 l382 l383 l384 l385 l386 l387 : Value) :
    Code.wp Try.prog fxTailC (bodyPost Try.prog Try.f3 fun e w' => e = .returned (.bool true) ∧ Below w.heap.size w w') ⟨(List.toArray ((.slice A0 mc c0 : Value) :: l1 :: l2 :: (.pointer (some ⟨b, 0, none⟩) : Value) :: (.int .i64 (n : Int) : Value) :: (.int .i64 (m : Int) : Value) :: l6 :: l7 :: l8 :: (.int .i64 (dm : Int) : Value) :: l10 :: l11 :: l12 :: l13 :: l14 :: l15 :: l16 :: l17 :: l18 :: l19 :: l20 :: l21 :: l22 :: l23 :: l24 :: l25 :: l26 :: l27 :: l28 :: l29 :: l30 :: l31 :: l32 :: l33 :: l34 :: l35 :: l36 :: l37 :: l38 :: l39 :: l40 :: l41 :: l42 :: l43 :: l44 :: l45 :: l46 :: l47 :: l48 :: l49 :: l50 :: l51 :: l52 :: l53 :: l54 :: l55 :: l56 :: l57 :: l58 :: l59 :: l60 :: l61 :: l62 :: l63 :: l64 :: l65 :: l66 :: l67 :: l68 :: l69 :: l70 :: l71 :: l72 :: l73 :: l74 :: l75 :: l76 :: l77 :: l78 :: l79 :: l80 :: l81 :: l82 :: l83 :: l84 :: l85 :: l86 :: l87 :: l88 :: l89 :: l90 :: l91 :: l92 :: l93 :: l94 :: l95 :: l96 :: l97 :: l98 :: l99 :: l100 :: l101 :: l102 :: l103 :: l104 :: l105 :: l106 :: l107 :: l108 :: l109 :: l110 :: l111 :: l112 :: l113 :: l114 :: l115 :: l116 :: l117 :: l118 :: l119 :: l120 :: l121 :: l122 :: l123 :: l124 :: l125 :: l126 :: l127 :: l128 :: l129 :: l130 :: l131 :: l132 :: l133 :: l134 :: l135 :: l136 :: l137 :: l138 :: l139 :: l140 :: l141 :: l142 :: l143 :: l144 :: l145 :: l146 :: l147 :: l148 :: l149 :: l150 :: l151 :: l152 :: l153 :: l154 :: l155 :: l156 :: l157 :: l158 :: l159 :: l160 :: l161 :: l162 :: l163 :: l164 :: l165 :: l166 :: l167 :: l168 :: l169 :: l170 :: l171 :: l172 :: l173 :: l174 :: l175 :: l176 :: l177 :: l178 :: l179 :: l180 :: l181 :: l182 :: l183 :: l184 :: l185 :: l186 :: l187 :: l188 :: l189 :: l190 :: l191 :: l192 :: l193 :: l194 :: l195 :: l196 :: l197 :: l198 :: l199 :: l200 :: l201 :: l202 :: l203 :: l204 :: l205 :: l206 :: l207 :: l208 :: l209 :: l210 :: l211 :: l212 :: l213 :: l214 :: l215 :: l216 :: l217 :: l218 :: l219 :: l220 :: l221 :: l222 :: l223 :: l224 :: l225 :: l226 :: l227 :: l228 :: l229 :: l230 :: l231 :: l232 :: l233 :: l234 :: l235 :: l236 :: l237 :: l238 :: l239 :: l240 :: l241 :: l242 :: l243 :: l244 :: l245 :: l246 :: l247 :: l248 :: l249 :: l250 :: l251 :: l252 :: l253 :: l254 :: l255 :: l256 :: l257 :: l258 :: l259 :: l260 :: l261 :: l262 :: l263 :: l264 :: l265 :: l266 :: l267 :: l268 :: l269 :: l270 :: l271 :: l272 :: l273 :: l274 :: l275 :: l276 :: l277 :: l278 :: l279 :: l280 :: l281 :: l282 :: l283 :: l284 :: l285 :: l286 :: l287 :: l288 :: l289 :: l290 :: l291 :: l292 :: l293 :: l294 :: l295 :: l296 :: l297 :: l298 :: l299 :: l300 :: l301 :: l302 :: l303 :: l304 :: l305 :: l306 :: l307 :: l308 :: l309 :: l310 :: l311 :: l312 :: l313 :: l314 :: l315 :: l316 :: l317 :: l318 :: l319 :: l320 :: l321 :: l322 :: l323 :: l324 :: l325 :: l326 :: l327 :: l328 :: l329 :: l330 :: l331 :: l332 :: l333 :: l334 :: l335 :: l336 :: l337 :: l338 :: l339 :: l340 :: l341 :: l342 :: l343 :: l344 :: l345 :: l346 :: l347 :: l348 :: l349 :: l350 :: l351 :: l352 :: l353 :: l354 :: l355 :: l356 :: l357 :: l358 :: l359 :: l360 :: l361 :: l362 :: l363 :: l364 :: l365 :: l366 :: l367 :: l368 :: l369 :: l370 :: l371 :: l372 :: l373 :: l374 :: l375 :: l376 :: l377 :: l378 :: l379 :: l380 :: l381 :: l382 :: l383 :: l384 :: l385 :: l386 :: l387 :: [])), []⟩ wo := by
  conv => arg 2; whnf
  obtain ⟨q0, q1⟩ := KQ3.out _ HA.out
  go_wp2_with fail
  --@F
  refine (C3.out.cChg _ HA.out).mono ?_
  rintro e W5 ⟨rfl, hb⟩
  have HB : Hid (Below W3.heap.size W3 W5) := HA.out.trans (hb.mono HA.out.size)
  rw [HDM.out]
  clear hb HA HDM
  replace q0 := (KQ3.out _ HB.out).1
  replace q1 := (KQ3.out _ HB.out).2
  have x1 : ((dm : Int) != (dm : Int)) = false := natEq_false rfl
  by_cases hm0 : m = 0
  case pos =>
    have x2 : ((m : Int) == 0) = true := by simp [hm0]
    have hv := HX.out
    have HRM : Hid (∀ W, Below W3.heap.size W3 W → Calls Try.prog 13 #[.agg #[.int .i64 (n : Int), .slice A m c], .int .i64 0] W fun e w' => ∃ A' c', e = .returned (.tuple #[.agg #[.int .i64 0, .slice A' 0 c'], .bool false]) ∧ Below W.heap.size W w') := fun W hW => by
      refine (implRemoveResult_std _ ⟨(n : Int), rs⟩ 0 W (HX3.out.1.inl.below hW) (by show rs.length ≤ _; rw [HLm.out]; omega) (wf_nat (k := 0) (by omega))).mono ?_
      rintro e w' ⟨v', rfl, ho, hb⟩
      have hx0 : Lx ⟨(n : Int), rs⟩ n 0 := by have := HX.out; rw [hm0] at this; exact this
      rw [hx0.none]
      rw [show removeF ⟨(n : Int), rs⟩ 0 = ⟨0, []⟩ by unfold removeF; rw [hx0.none]; rfl] at ho
      obtain ⟨A', c', rfl⟩ := ho.form
      exact ⟨A', c', rfl, hb⟩
    clear hm0 hv
    go_wp2_with fail
    refine (HRM.out _ HB.out).mono ?_
    rintro e W6 ⟨A', c', rfl, hb⟩
    replace HB : Hid (Below W3.heap.size W3 W6) := HB.out.trans (hb.mono HB.out.size)
    have HB7 : Hid (Below W3.heap.size W3 (W6.alloc (.cells #[.int .i64 0, .slice A' 0 c'] 25))) := HB.out.alloc HB.out.size _
    replace q0 := (KQ3.out _ HB7.out).1
    replace q1 := (KQ3.out _ HB7.out).2
    clear hb HRM
    go_wp2_with fail
    refine (C3.out.cOk _ HB7.out).mono ?_
    rintro e W8 ⟨rfl, hb⟩
    have HB8 : Hid (Below W3.heap.size W3 W8) := HB7.out.trans (hb.mono HB7.out.size)
    clear hb
    go_wp2
    go_ret
    exact ⟨rfl, HE3.out.trans (HB8.out.mono HE3.out.size)⟩
  have hm1 : 0 < m := by omega
  have hmz : (m : Int) ≠ 0 := by omega
  have x2 : ((m : Int) == 0) = false := by simp [hm0]
  clear hm0
  go_wp2_with fail
  refine (fxNumZ _ mc 40 _ (HX3.out.2.below HB.out) hn (by decide) (by decide)).mono ?_
  rintro e W6 ⟨qn, hqn, rfl, hb⟩
  replace HB : Hid (Below W3.heap.size W3 W6) := HB.out.trans (hb.mono HB.out.size)
  obtain ⟨i, hi, him⟩ : ∃ i : Nat, Int.tmod (qn : Int) (m : Int) = (i : Int) ∧ i < m := ⟨qn % m, by rw [Int.tmod_eq_emod_of_nonneg (by omega)]; rfl, Nat.mod_lt _ hm1⟩
  obtain ⟨⟨rh, ra, rg, rt⟩, rsY, rsF, rsV, h6'⟩ := fx6_of HX.out him
  obtain ⟨hh, aa, ph, pa, e1, e2, hh6, ha6, p0, p1, pv1, pv2, pv3, pv4, pv5⟩ := h6'.pts
  simp only at e1 e2
  subst e1
  subst e2
  have H6 := Lib.hid h6'
  have HPV := Lib.hid (And.intro pv1 (And.intro pv2 (And.intro pv3 (And.intro pv4 pv5))))
  have hrb := h6'.rb
  simp only at hrb
  obtain ⟨g0, g1, t0, t1⟩ := hrb
  obtain ⟨bx, ox, r', hAx, hr', c0', c1', c2', c3', -⟩ := (inL_sl HX3.out.1.inl).2.2.2.at_ (k := i) (by rw [HLm.out]; exact him)
  obtain rfl : (⟨(hh : Int), (aa : Int), rg, rt⟩ : Res) = r' := Option.some.inj (h6'.hr.symm.trans hr')
  subst hAx
  have kc : ∀ (p : Addr) (y : Value), W3.cell? p = some y → W6.cell? p = some y := fun p y h => (HB.out.cell (block_lt_of_cell h)).trans h
  have r0 := kc _ _ c0'
  have r1 := kc _ _ c1'
  have r2 := kc _ _ c2'
  have r3 := kc _ _ c3'
  simp only at r0 r1 r2 r3
  clear c0' c1' c2' c3' hr' h6' pv1 pv2 pv3 pv4 pv5 kc hb
  have HR6 : Hid (RB (W6.alloc (.cells #[.int .i64 (hh : Int), .int .i64 (aa : Int), .int .i64 rg, .int .i64 rt] 39)) W6.heap.size ⟨(hh : Int), (aa : Int), rg, rt⟩) := rb_new W6 ⟨(hh : Int), (aa : Int), rg, rt⟩
  have HB7 : Hid (Below W3.heap.size W3 (W6.alloc (.cells #[.int .i64 (hh : Int), .int .i64 (aa : Int), .int .i64 rg, .int .i64 rt] 39))) := HB.out.alloc HB.out.size _
  replace q0 := (KQ3.out _ HB.out).1
  replace q1 := (KQ3.out _ HB.out).2
  have y0 := (KQ3.out _ HB7.out).1
  have y1 := (KQ3.out _ HB7.out).2
  have i1 : (i : Int) < (m : Int) := by omega
  have i2 : ((m - 1 : Nat) : Int) = (m : Int) - 1 := by omega
  obtain ⟨m1, hme⟩ : ∃ m1, m - 1 = m1 := ⟨_, rfl⟩
  rw [hme] at i2
  go_wp2_with fail
  obtain ⟨br, hbr⟩ : ∃ b, W6.heap.size = b := ⟨_, rfl⟩
  rw [hbr] at HR6 ⊢
  generalize W6.alloc (.cells #[.int .i64 (hh : Int), .int .i64 (aa : Int), .int .i64 rg, .int .i64 rt] 39) = W7 at *
  clear hbr y0 y1 q0 q1 r0 r1 r2 r3 HB
  have HR := HR6
  clear HR6
  refine (H6.out.cY (HX3.out.1.inl.below HB7.out) HB7.out).mono ?_
  rintro e V8 ⟨AY, cY, rfl, ⟨hY0, hY1⟩, hX, hb⟩
  have HB8 : Hid (Below W3.heap.size W3 (V8.alloc (.cells #[.int .i64 (n : Int), .slice AY m cY] 25))) := HB7.out.trans (hb.mono HB7.out.size)
  replace HR := Lib.hid (HR.out.grow hb)
  obtain ⟨bY, hbY⟩ : ∃ b, V8.heap.size = b := ⟨_, rfl⟩
  rw [hbY] at hX
  have HXY := Lib.hid hX
  obtain ⟨y0, y1⟩ := hX.later _ (Below.refl _ _)
  obtain ⟨r0, r1, r2, r3⟩ := HR.out.cells
  simp only at r0 r1 r2 r3
  clear hX hb HB7
  go_wp2_with fail
  try rw [hbY]
  generalize V8.alloc (.cells #[.int .i64 (n : Int), .slice AY m cY] 25) = W8 at *
  clear hbY y0 y1 r0 r1 r2 r3
  refine (H6.out.cZ (HXY.out.inl) HB8.out).mono ?_
  rintro e V9 ⟨AZ, cZ, rfl, ⟨hZ0, hZ1⟩, hX, hb⟩
  have HB9 : Hid (Below W3.heap.size W3 (V9.alloc (.cells #[.int .i64 (n : Int), .slice AZ m cZ] 25))) := HB8.out.trans (hb.mono HB8.out.size)
  replace HR := Lib.hid (HR.out.grow hb)
  replace HXY := Lib.hid (HXY.out.grow hb)
  obtain ⟨bZ, hbZ⟩ : ∃ b, V9.heap.size = b := ⟨_, rfl⟩
  rw [hbZ] at hX
  have HXZ := Lib.hid hX
  obtain ⟨q0, q1⟩ := KQ3.out _ HB9.out
  clear hX hb HB8
  go_wp2_with fail
  try rw [hbZ]
  have hsz : (V9.alloc (.cells #[.int .i64 (n : Int), .slice AZ m cZ] 25)).heap.size = bZ + 1 := by rw [World.size_alloc, hbZ]
  generalize V9.alloc (.cells #[.int .i64 (n : Int), .slice AZ m cZ] 25) = W9 at *
  clear hbZ q0 q1
  have hS := inS_two W9 (i : Int) 0 0 (i : Int) 4 1
  rw [hsz] at hS
  have HBw : Hid (Below W9.heap.size W9 (((W9.alloc (.cells #[.int .i64 (i : Int), .int .i64 0, .int .i64 0] 3)).alloc (.cells #[.int .i64 (i : Int), .int .i64 4, .int .i64 1] 3)).alloc (.cells #[.slice (some ⟨bZ + 1, 0, none⟩) 3 3, .slice (some ⟨bZ + 1 + 1, 0, none⟩) 3 3] 27))) := (((Below.refl _ W9).alloc (Nat.le_refl _) _).alloc (by simp) _).alloc (by simp; omega) _
  have HBx := HB9.out.trans (HBw.out.mono HB9.out.size)
  refine (H6.out.cW (HX3.out.1.inl.below HBx) hS HBx).mono ?_
  clear HBx hS hsz
  rintro e V10 ⟨AW, cW, rfl, ⟨hW0, hW1⟩, hX, hb⟩
  replace hb := HBw.out.trans (hb.mono HBw.out.size)
  clear HBw
  have HB10 : Hid (Below W3.heap.size W3 (V10.alloc (.cells #[.int .i64 (n : Int), .slice AW m cW] 25))) := HB9.out.trans (hb.mono HB9.out.size)
  replace HR := Lib.hid (HR.out.grow hb)
  replace HXY := Lib.hid (HXY.out.grow hb)
  replace HXZ := Lib.hid (HXZ.out.grow hb)
  obtain ⟨bW, hbW⟩ : ∃ b, V10.heap.size = b := ⟨_, rfl⟩
  rw [hbW] at hX
  have HXW := Lib.hid hX
  obtain ⟨q0, q1⟩ := KQ3.out _ HB10.out
  obtain ⟨r0, r1, r2, r3⟩ := HR.out.cells
  simp only at r0 r1 r2 r3
  clear hX hb HB9
  go_wp2_with fail
  try rw [hbW]
  generalize V10.alloc (.cells #[.int .i64 (n : Int), .slice AW m cW] 25) = W10 at *
  clear hbW q0 q1 r0 r1 r2 r3
  refine (H6.out.cF (HX3.out.1.inl.below HB10.out) HB10.out).mono ?_
  rintro e V11 ⟨AF, cF, rfl, ⟨hF0, hF1⟩, hX, hb⟩
  have HB11 : Hid (Below W3.heap.size W3 (V11.alloc (.cells #[.int .i64 (n : Int), .slice AF m cF] 25))) := HB10.out.trans (hb.mono HB10.out.size)
  replace HR := Lib.hid (HR.out.grow hb)
  replace HXY := Lib.hid (HXY.out.grow hb)
  replace HXZ := Lib.hid (HXZ.out.grow hb)
  replace HXW := Lib.hid (HXW.out.grow hb)
  obtain ⟨bF, hbF⟩ : ∃ b, V11.heap.size = b := ⟨_, rfl⟩
  rw [hbF] at hX
  have HXF := Lib.hid hX
  obtain ⟨q0, q1⟩ := KQ3.out _ HB11.out
  clear hX hb HB10
  go_wp2_with fail
  try rw [hbF]
  generalize V11.alloc (.cells #[.int .i64 (n : Int), .slice AF m cF] 25) = W11 at *
  clear hbF q0 q1
  refine (H6.out.cV (HX3.out.1.inl.below HB11.out) HB11.out).mono ?_
  rw [hme]
  rintro e V12 ⟨AV, cV, rfl, ⟨hV0, hV1⟩, hX, hb⟩
  have HB12 : Hid (Below W3.heap.size W3 (V12.alloc (.cells #[.int .i64 (n : Int), .slice AV m1 cV] 25))) := HB11.out.trans (hb.mono HB11.out.size)
  replace HR := Lib.hid (HR.out.grow hb)
  replace HXY := Lib.hid (HXY.out.grow hb)
  replace HXZ := Lib.hid (HXZ.out.grow hb)
  replace HXW := Lib.hid (HXW.out.grow hb)
  replace HXF := Lib.hid (HXF.out.grow hb)
  obtain ⟨bV, hbV⟩ : ∃ b, V12.heap.size = b := ⟨_, rfl⟩
  rw [hbV] at hX
  have HXV := Lib.hid hX
  clear hX hb HB11
  go_wp2_with fail
  try rw [hbV]
  generalize V12.alloc (.cells #[.int .i64 (n : Int), .slice AV m1 cV] 25) = W12 at *
  clear hbV 
  have CX := Lib.hid (C3.out.mono HB12.out)
  have CY := Lib.hid (fxC_of H6.out.ly HXY.out.inl)
  have CZ := Lib.hid (fxC_of H6.out.lx HXZ.out.inl)
  have CW := Lib.hid (fxC_of H6.out.ly HXW.out.inl)
  have CF := Lib.hid (fxC_of H6.out.lf HXF.out.inl)
  have CV := Lib.hid (fxC_of (m := m1) (by rw [← hme]; exact H6.out.lv) HXV.out.inl)
  have KK : Hid (∀ W, Below W12.heap.size W12 W → ((W.cell? ⟨b, 0, none⟩ = some (.int .i64 (n : Int)) ∧ W.cell? ⟨b, 1, none⟩ = some (.slice (some ⟨bx, ox, none⟩) m c)) ∧ (W.cell? ⟨bZ, 0, none⟩ = some (.int .i64 (n : Int)) ∧ W.cell? ⟨bZ, 1, none⟩ = some (.slice AZ m cZ)) ∧ (W.cell? ⟨bW, 0, none⟩ = some (.int .i64 (n : Int)) ∧ W.cell? ⟨bW, 1, none⟩ = some (.slice AW m cW)) ∧ (W.cell? ⟨bY, 0, none⟩ = some (.int .i64 (n : Int)) ∧ W.cell? ⟨bY, 1, none⟩ = some (.slice AY m cY))) ∧ (W.cell? ⟨bF, 0, none⟩ = some (.int .i64 (n : Int)) ∧ W.cell? ⟨bF, 1, none⟩ = some (.slice AF m cF)) ∧ (W.cell? ⟨bV, 0, none⟩ = some (.int .i64 (n : Int)) ∧ W.cell? ⟨bV, 1, none⟩ = some (.slice AV m1 cV))) := fun W hW => ⟨⟨KQ3.out _ (HB12.out.trans (hW.mono HB12.out.size)), HXZ.out.later _ hW, HXW.out.later _ hW, HXY.out.later _ hW⟩, HXF.out.later _ hW, HXV.out.later _ hW⟩
  have HSZ : Hid (SlR W12 AZ rs ∧ SlR W12 AF rsF) := ⟨(inL_sl HXZ.out.inl).2.2.2, (inL_sl HXF.out.inl).2.2.2⟩
  have KR := Lib.hid HR.out.later
  have HE12 : Hid (Below w.heap.size w W12) := HE3.out.trans (HB12.out.mono HE3.out.size)
  have HS : Hid (∀ W A c A' c' (xs : List Int), xs.length = n → InI W (.slice A n c) xs → InI W (.slice A' n c') xs → Calls Try.prog 8 #[.slice A n c, .slice A' n c'] W fun e w' => e = .returned (.bool true) ∧ W = w') := fun W A c A' c' xs hl h1 h2 => by
    subst hl
    have h := lawsSameB_any _ _ _ _ W h1 h2 (by omega) (by omega)
    rw [show (xs == xs) = true from beq_self_eq_true _] at h; exact h
  clear HXZ HXW HXY HXF HXV HR C3 KQ3 HX3 HE3 HB12
  obtain ⟨⟨⟨q0, q1⟩, ⟨q2, q3⟩, ⟨q4, q5⟩, ⟨q6, q7⟩⟩, ⟨q8, q9⟩, ⟨q10, q11⟩⟩ := KK.out _ (Below.refl _ _)
  have HB : Hid (Below W12.heap.size W12 W12.drew) := below_drewL (Below.refl _ _)
  have e3 : ((m : Int) != (m : Int)) = false := natEq_false rfl
  have e4 : ((m1 : Int) != (m1 : Int)) = false := natEq_false rfl
  have w1 : IntKind.i64.wrap ((m : Int) - 1) = (m1 : Int) := by rw [IntKind.wrap_i64]; omega
  have w2 : wrap64 ((m : Int) - 1) = (m1 : Int) := by unfold wrap64; omega
  have k0 : Hid True := trivial
  try simp only [List.append]
  --@G
  go_region_held3 (fun W => ((W.cell? ⟨b, 0, none⟩ = some (.int .i64 (n : Int)) ∧ W.cell? ⟨b, 1, none⟩ = some (.slice (some ⟨bx, ox, none⟩) m c)) ∧ (W.cell? ⟨bZ, 0, none⟩ = some (.int .i64 (n : Int)) ∧ W.cell? ⟨bZ, 1, none⟩ = some (.slice AZ m cZ)) ∧ (W.cell? ⟨bW, 0, none⟩ = some (.int .i64 (n : Int)) ∧ W.cell? ⟨bW, 1, none⟩ = some (.slice AW m cW)) ∧ (W.cell? ⟨bY, 0, none⟩ = some (.int .i64 (n : Int)) ∧ W.cell? ⟨bY, 1, none⟩ = some (.slice AY m cY))) ∧ (W.cell? ⟨bF, 0, none⟩ = some (.int .i64 (n : Int)) ∧ W.cell? ⟨bF, 1, none⟩ = some (.slice AF m cF)) ∧ (W.cell? ⟨bV, 0, none⟩ = some (.int .i64 (n : Int)) ∧ W.cell? ⟨bV, 1, none⟩ = some (.slice AV m1 cV))) (first | exact ⟨⟨⟨q0, q1⟩, ⟨q2, q3⟩, ⟨q4, q5⟩, ⟨q6, q7⟩⟩, ⟨q8, q9⟩, ⟨q10, q11⟩⟩ | exact KK.out _ HB.out) (first
    | (go_at_call 19; have h_ := k0.out; clear h_ k0; (with_reducible refine (CZ.out.cPts _ HB.out).mono ?_); rintro e x1 ⟨AP1, cP1, rfl, hp, hb⟩; have P1 := Lib.hid hp; clear hp; replace HB : Hid (Below W12.heap.size W12 x1) := HB.out.trans (hb.mono HB.out.size); clear hb; have k1 : Hid True := trivial)
    | (go_at_call 19; have h_ := k1.out; clear h_ k1; (with_reducible refine (CX.out.cPts _ HB.out).mono ?_); rintro e x2 ⟨AP2, cP2, rfl, hp, hb⟩; have P2 := Lib.hid hp; clear hp; replace P1 := Lib.hid (P1.out.below hb); replace HB : Hid (Below W12.heap.size W12 x2) := HB.out.trans (hb.mono HB.out.size); clear hb; have k2 : Hid True := trivial)
    | (go_at_call 8; have h_ := k2.out; clear h_ k2; (with_reducible refine (HS.out _ _ _ _ _ _ P1.out.len P1.out.in_ P2.out.in_).mono ?_); rintro e w_ ⟨rfl, rfl⟩; clear P1 P2; have k3 : Hid True := trivial)
    | (go_at_call 9; have h_ := k3.out; clear h_ k3; (with_reducible refine (CW.out.cTab _ HB.out).mono ?_); rintro e x3 ⟨AP3, cP3, rfl, hp, hb⟩; have P3 := Lib.hid hp; clear hp; replace HB : Hid (Below W12.heap.size W12 x3) := HB.out.trans (hb.mono HB.out.size); clear hb; have k4 : Hid True := trivial)
    | (go_at_call 9; have h_ := k4.out; clear h_ k4; (with_reducible refine (CY.out.cTab _ HB.out).mono ?_); rintro e x4 ⟨AP4, cP4, rfl, hp, hb⟩; have P4 := Lib.hid hp; clear hp; replace P3 := Lib.hid (P3.out.below hb); replace HB : Hid (Below W12.heap.size W12 x4) := HB.out.trans (hb.mono HB.out.size); clear hb; have k5 : Hid True := trivial)
    | (go_at_call 8; have h_ := k5.out; clear h_ k5; (with_reducible refine (HS.out _ _ _ _ _ _ P3.out.len P3.out.in_ P4.out.in_).mono ?_); rintro e w_ ⟨rfl, rfl⟩; clear P3 P4; have k6 : Hid True := trivial))
  clear q0 q1 q2 q3 q4 q5 q6 q7 q8 q9 q10 q11 e3 e4 w1 w2 HS CX CZ CW
  obtain ⟨⟨-, ⟨z0, z1⟩, -, ⟨y0, y1⟩⟩, ⟨f0, f1⟩, ⟨v0, v1⟩⟩ := KK.out _ HB.out
  go_wp2_with fail
  refine (CV.out.cPts _ HB.out).mono ?_
  rintro e U1 ⟨Ap, cp, rfl, hp, hb⟩
  obtain ⟨bp, op, rfl, hcp⟩ := hp.some_ (by omega)
  replace HB : Hid (Below W12.heap.size W12 U1) := HB.out.trans (hb.mono HB.out.size)
  have KP : Hid (∀ W, Below U1.heap.size U1 W → W.cell? ⟨bp, op + hh, none⟩ = some (.int .i64 ph) ∧ W.cell? ⟨bp, op + aa, none⟩ = some (.int .i64 pa)) := fun W hW => by
    have kc : ∀ (p : Addr) (y : Value), U1.cell? p = some y → W.cell? p = some y := fun p y h => (hW.cell (block_lt_of_cell h)).trans h
    exact ⟨kc _ _ (hcp _ _ HPV.out.1), kc _ _ (hcp _ _ HPV.out.2.2.1)⟩
  have HP := Lib.hid hp.1
  clear hp hb hcp z0 z1 y0 y1 f0 f1 v0 v1
  obtain ⟨⟨-, ⟨z0, z1⟩, -, ⟨y0, y1⟩⟩, ⟨f0, f1⟩, ⟨v0, v1⟩⟩ := KK.out _ HB.out
  go_wp2_with fail
  refine (CY.out.cPts _ HB.out).mono ?_
  rintro e U2 ⟨Aq, cq, rfl, hp, hb⟩
  obtain ⟨bq, oq, rfl, hcp⟩ := hp.some_ (by omega)
  have HB2 := Lib.hid hb
  replace HB : Hid (Below W12.heap.size W12 U2) := HB.out.trans (hb.mono HB.out.size)
  have KQ : Hid (∀ W, Below U2.heap.size U2 W → W.cell? ⟨bq, oq + hh, none⟩ = some (.int .i64 (ph + 3)) ∧ W.cell? ⟨bq, oq + aa, none⟩ = some (.int .i64 pa)) := fun W hW => by
    have kc : ∀ (p : Addr) (y : Value), U2.cell? p = some y → W.cell? p = some y := fun p y h => (hW.cell (block_lt_of_cell h)).trans h
    exact ⟨kc _ _ (hcp _ _ HPV.out.2.1), kc _ _ (hcp _ _ HPV.out.2.2.2.1)⟩
  clear hp hb hcp z0 z1 y0 y1 f0 f1 v0 v1
  obtain ⟨⟨-, ⟨z0, z1⟩, -, ⟨y0, y1⟩⟩, ⟨f0, f1⟩, ⟨v0, v1⟩⟩ := KK.out _ HB.out
  go_wp2_with fail
  refine (CF.out.cPts _ HB.out).mono ?_
  rintro e U3 ⟨As, cs, rfl, hp, hb⟩
  obtain ⟨bs, os, rfl, hcp⟩ := hp.some_ (by omega)
  replace HB : Hid (Below W12.heap.size W12 U3) := HB.out.trans (hb.mono HB.out.size)
  obtain ⟨qa0, qa1⟩ := KQ.out _ hb
  obtain ⟨pa0, pa1⟩ := KP.out _ (HB2.out.trans (hb.mono HB2.out.size))
  have sa0 := hcp _ _ HPV.out.2.2.2.2
  clear hp hb hcp z0 z1 y0 y1 f0 f1 v0 v1 KP KQ HB2 HPV
  obtain ⟨⟨-, ⟨z0, z1⟩, -, -⟩, ⟨f0, f1⟩, -⟩ := KK.out _ HB.out
  obtain ⟨r0, r1, r2, r3⟩ := KR.out _ HB.out
  try simp only at r0 r1 r2 r3
  obtain ⟨bz, oz, r', hAz, hr', c0', c1', c2', c3', -⟩ := HSZ.out.1.at_ (k := i) (by rw [HLm.out]; exact him)
  obtain rfl : (⟨(hh : Int), (aa : Int), rg, rt⟩ : Res) = r' := Option.some.inj (H6.out.hr.symm.trans hr')
  obtain ⟨bg, og, r', hAf, hr2, d0', d1', d2', d3', -⟩ := HSZ.out.2.at_ (k := i) (by rw [show rsF.length = m from H6.out.lf.len]; exact him)
  obtain rfl : (⟨(hh : Int), (aa : Int), 3, 0⟩ : Res) = r' := Option.some.inj (H6.out.hf.symm.trans hr2)
  subst hAz
  subst hAf
  simp only at c0' c1' c2' c3' d0' d1' d2' d3'
  have kc : ∀ (p : Addr) (y : Value), W12.cell? p = some y → U3.cell? p = some y := fun p y h => (HB.out.cell (block_lt_of_cell h)).trans h
  replace c0' := kc _ _ c0'
  replace c1' := kc _ _ c1'
  replace c2' := kc _ _ c2'
  replace c3' := kc _ _ c3'
  replace d2' := kc _ _ d2'
  replace d3' := kc _ _ d3'
  have HF := Lib.hid (HE12.out.trans (HB.out.mono HE12.out.size))
  clear kc d0' d1' hr' hr2 HSZ KK KR H6 HB CV CY CF HE12
  obtain ⟨p3, hp3⟩ : ∃ p3 : Int, ph + 3 = p3 := ⟨_, rfl⟩
  have w1 : IntKind.i64.wrap (ph + 3) = p3 := by rw [IntKind.wrap_i64]; omega
  have w2 : wrap64 (ph + 3) = p3 := by unfold wrap64; omega
  rw [hp3] at qa0 sa0
  clear hp3
  have i5 : (hh : Int) < (n : Int) := by omega
  have i6 : (aa : Int) < (n : Int) := by omega
  have x3 : ((n : Int) != (n : Int)) = false := natEq_false rfl
  --@R
  go_wp2
  try simp only [List.append]
  go_quiet (fail)
  rename_i nq
  have HF2 : Hid (Below w.heap.size w (U3.drewN nq)) := below_drewN HF.out nq
  generalize U3.drewN nq = U4 at *
  go_wp2
  go_ret
  exact ⟨rfl, HF2.out⟩
end Go.Proofs.Ythlkhmbndaecfaa
