/- FnRatings: the law's second loop (performances) as a theorem of its own. -/
import Derived.Test.YtihoflfokiijdaaDr
import Derived.Test.YtihoflfokiijdaaLx
import Derived.Test.YtihoflfokiijdaaBox
import Derived.Test.YtihoflfokiijdaaRateT
import Derived.Test.YtihoflfokiijdaaLawRs
import Derived.Test.YtihoflfokiijdaaRateS
import Derived.Deep.RegionHeld3
import Derived.Deep.Cut
import Derived.Deep.CutRange
namespace Go.Proofs.Ytihoflfokiijdaa
open Go.ChangeShapes Go.WideShapes Go.ChangeAt Go.RowKit

theorem Drawn.bulk {r : List Int} {gs : List (List Int)} (h : Drawn r gs) : bulk gs ≤ 1048576 := by
  have h1 := h.games
  have h2 := h.m5
  have h3 : ∀ g ∈ gs, g.length = 3 := fun g hg => by obtain ⟨a, b, c, rfl, _⟩ := gameOk_t (h1 g hg); rfl
  rw [bulk_eq]
  have h4 : ∀ gs : List (List Int), (∀ g ∈ gs, g.length = 3) → rowsLen gs = 3 * (gs.length : Int) := by
    intro gs
    induction gs with
    | nil => intro _; rfl
    | cons g gs ih =>
      intro h
      have h5 := h g (List.mem_cons_self ..)
      have h6 := ih (fun g' hg' => h g' (List.mem_cons_of_mem _ hg'))
      have h7 : rowsLen (g :: gs) = g.length + rowsLen gs := by simp [rowsLen]
      rw [h7, List.length_cons]; omega
  have := h4 gs h3
  omega

set_option maxHeartbeats 8000000 in
set_option maxRecDepth 100000 in
theorem ratLoop2 (w0 : World) (r : List Int) (gs : List (List Int)) (b1 o1 c1 c2 : Nat) (A2 : Option Addr) (hr5 : r.length ≤ 5) (hr2 : 2 ≤ r.length) (hg5 : gs.length ≤ 5) (HD : Hid (Drawn r gs))
    (H0 : Hid (InI w0 (.slice (some ⟨b1, o1, none⟩) r.length c1) r ∧ InS w0 (.slice A2 gs.length c2) gs)) (Q0 : Exit → Act → World → Prop) (l0 l1 l2 l6 l7 l8 l9 l10 l11 l12 l13 l14 l16 l17 l18 l19 l20 l21 l22 l23 l24 l25 l26 l27 l28 l29 l30 l31 l32 l33 l34 l35 l36 l37 l38 l39 l40 l41 l42 l43 l44 l45 l46 l47 l48 l49 l50 l51 l52 l53 l54 l55 l56 l57 l58 l59 l60 l61 l62 l63 l64 l65 l66 l67 l68 l69 l70 l71 l72 l73 l74 l75 l76 l77 l78 l79 l80 l81 l82 l83 l84 l85 l86 l87 l88 l89 l90 l91 l92 l93 l94 l95 l96 l97 l98 l99 l100 l101 l102 l103 l104 l105 l106 l107 l108 l109 l110 l111 l112 l113 l114 l115 l116 l117 l118 l119 l120 l121 l122 l123 l124 l125 l126 l127 l128 l129 l130 l131 l132 l133 l134 l135 l136 l137 l138 l139 l140 l141 l142 l143 l144 l145 l146 l147 l148 l149 l150 l151 l152 l153 l154 l155 l156 l157 l158 l159 l160 l161 l162 l163 l164 l165 l166 l167 l168 l169 l170 l171 l172 l173 l174 l175 l176 l177 l178 l179 l180 l181 l182 l183 l184 l185 l186 l187 l188 l189 l190 l191 l192 l193 l194 l195 l196 l197 l198 l199 l200 l201 l202 l203 l204 l205 l206 l207 l208 l209 l210 l211 l212 l213 l214 l215 l216 l217 l218 l219 l220 l221 l222 l223 l224 l225 l226 l227 l228 l229 l230 l231 l232 l233 l234 l235 l236 l237 l238 l239 l240 l241 l242 l243 l244 l245 l246 l247 l248 l249 l250 l251 l252 l253 l254 l255 l256 l257 l258 l259 l260 l261 l262 l263 l264 l265 l266 l267 l268 l269 l270 l271 l272 l273 l274 l275 l276 l277 l278 l279 l280 l281 l282 l283 l284 l285 l286 l287 l288 l289 l290 l291 l292 l293 l294 l295 l296 l297 l298 l299 l300 l301 l302 l303 l304 l305 l306 l307 l308 l309 l310 l311 l312 l313 l314 l315 l316 l317 l318 l319 l320 l321 l322 l323 l324 l325 l326 l327 l328 l329 l330 l331 l332 l333 l334 l335 l336 l337 l338 l339 l340 l341 l342 l343 l344 l345 l346 l347 l348 l349 l350 l351 l352 l353 l354 l355 l356 l357 l358 l359 l360 l361 l362 l363 l364 l365 l366 l367 l368 l369 l370 l371 l372 l373 l374 l375 l376 l377 l378 l379 l380 l381 : Value)
    (hexit : ∀ (a' : Act) (w'' : World), (Below w0.heap.size w0 w'' ∧ ∃ (e2 e15 e16 e17 e18 e19 e20 e22 e23 e261 e262 e263 e264 e265 e266 e267 e268 e269 e270 e271 e272 e273 e274 e275 e276 e277 e278 e279 e280 e281 e282 e283 e284 e285 e286 e287 e288 e289 e290 e291 e292 e293 e294 e295 e296 e297 e298 e299 e300 e301 e302 e303 e304 e305 e306 e307 e308 e309 e310 e311 e312 e313 e314 e315 e316 e317 e318 e319 e320 e321 e322 e323 e324 e325 e326 e327 e328 e329 e330 e331 e332 e333 e334 e335 e336 e337 e338 e339 e340 e341 e342 e343 e344 e345 e346 e347 e348 e349 e350 e351 e352 e353 e354 e355 e356 e357 e358 e359 e360 e361 e362 e363 e364 e365 e366 e367 e368 e369 e370 : Value), a' = ⟨(List.toArray (l0 :: l1 :: e2 :: (.slice (some ⟨b1, o1, none⟩) r.length c1 : Value) :: (.slice A2 gs.length c2 : Value) :: (.int .i64 (r.length : Int) : Value) :: l6 :: l7 :: l8 :: l9 :: l10 :: l11 :: l12 :: l13 :: l14 :: e15 :: e16 :: e17 :: e18 :: e19 :: e20 :: l21 :: e22 :: e23 :: l24 :: l25 :: l26 :: l27 :: l28 :: l29 :: l30 :: l31 :: l32 :: l33 :: l34 :: l35 :: l36 :: l37 :: l38 :: l39 :: l40 :: l41 :: l42 :: l43 :: l44 :: l45 :: l46 :: l47 :: l48 :: l49 :: l50 :: l51 :: l52 :: l53 :: l54 :: l55 :: l56 :: l57 :: l58 :: l59 :: l60 :: l61 :: l62 :: l63 :: l64 :: l65 :: l66 :: l67 :: l68 :: l69 :: l70 :: l71 :: l72 :: l73 :: l74 :: l75 :: l76 :: l77 :: l78 :: l79 :: l80 :: l81 :: l82 :: l83 :: l84 :: l85 :: l86 :: l87 :: l88 :: l89 :: l90 :: l91 :: l92 :: l93 :: l94 :: l95 :: l96 :: l97 :: l98 :: l99 :: l100 :: l101 :: l102 :: l103 :: l104 :: l105 :: l106 :: l107 :: l108 :: l109 :: l110 :: l111 :: l112 :: l113 :: l114 :: l115 :: l116 :: l117 :: l118 :: l119 :: l120 :: l121 :: l122 :: l123 :: l124 :: l125 :: l126 :: l127 :: l128 :: l129 :: l130 :: l131 :: l132 :: l133 :: l134 :: l135 :: l136 :: l137 :: l138 :: l139 :: l140 :: l141 :: l142 :: l143 :: l144 :: l145 :: l146 :: l147 :: l148 :: l149 :: l150 :: l151 :: l152 :: l153 :: l154 :: l155 :: l156 :: l157 :: l158 :: l159 :: l160 :: l161 :: l162 :: l163 :: l164 :: l165 :: l166 :: l167 :: l168 :: l169 :: l170 :: l171 :: l172 :: l173 :: l174 :: l175 :: l176 :: l177 :: l178 :: l179 :: l180 :: l181 :: l182 :: l183 :: l184 :: l185 :: l186 :: l187 :: l188 :: l189 :: l190 :: l191 :: l192 :: l193 :: l194 :: l195 :: l196 :: l197 :: l198 :: l199 :: l200 :: l201 :: l202 :: l203 :: l204 :: l205 :: l206 :: l207 :: l208 :: l209 :: l210 :: l211 :: l212 :: l213 :: l214 :: l215 :: l216 :: l217 :: l218 :: l219 :: l220 :: l221 :: l222 :: l223 :: l224 :: l225 :: l226 :: l227 :: l228 :: l229 :: l230 :: l231 :: l232 :: l233 :: l234 :: l235 :: l236 :: l237 :: l238 :: l239 :: l240 :: l241 :: l242 :: l243 :: l244 :: l245 :: l246 :: l247 :: l248 :: l249 :: l250 :: l251 :: l252 :: l253 :: l254 :: l255 :: l256 :: l257 :: l258 :: l259 :: l260 :: e261 :: e262 :: e263 :: e264 :: e265 :: e266 :: e267 :: e268 :: e269 :: e270 :: e271 :: e272 :: e273 :: e274 :: e275 :: e276 :: e277 :: e278 :: e279 :: e280 :: e281 :: e282 :: e283 :: e284 :: e285 :: e286 :: e287 :: e288 :: e289 :: e290 :: e291 :: e292 :: e293 :: e294 :: e295 :: e296 :: e297 :: e298 :: e299 :: e300 :: e301 :: e302 :: e303 :: e304 :: e305 :: e306 :: e307 :: e308 :: e309 :: e310 :: e311 :: e312 :: e313 :: e314 :: e315 :: e316 :: e317 :: e318 :: e319 :: e320 :: e321 :: e322 :: e323 :: e324 :: e325 :: e326 :: e327 :: e328 :: e329 :: e330 :: e331 :: e332 :: e333 :: e334 :: e335 :: e336 :: e337 :: e338 :: e339 :: e340 :: e341 :: e342 :: e343 :: e344 :: e345 :: e346 :: e347 :: e348 :: e349 :: e350 :: e351 :: e352 :: e353 :: e354 :: e355 :: e356 :: e357 :: e358 :: e359 :: e360 :: e361 :: e362 :: e363 :: e364 :: e365 :: e366 :: e367 :: e368 :: e369 :: e370 :: l371 :: l372 :: l373 :: l374 :: l375 :: l376 :: l377 :: l378 :: l379 :: l380 :: l381 :: [])), []⟩) → Q0 (.exit 2) a' w'') :
    Code.wp Try.prog (Code.loop ratBody2) Q0 ⟨(List.toArray (l0 :: l1 :: l2 :: (.slice (some ⟨b1, o1, none⟩) r.length c1 : Value) :: (.slice A2 gs.length c2 : Value) :: (.int .i64 (r.length : Int) : Value) :: l6 :: l7 :: l8 :: l9 :: l10 :: l11 :: l12 :: l13 :: l14 :: (.int .i64 0 : Value) :: l16 :: l17 :: l18 :: l19 :: l20 :: l21 :: l22 :: l23 :: l24 :: l25 :: l26 :: l27 :: l28 :: l29 :: l30 :: l31 :: l32 :: l33 :: l34 :: l35 :: l36 :: l37 :: l38 :: l39 :: l40 :: l41 :: l42 :: l43 :: l44 :: l45 :: l46 :: l47 :: l48 :: l49 :: l50 :: l51 :: l52 :: l53 :: l54 :: l55 :: l56 :: l57 :: l58 :: l59 :: l60 :: l61 :: l62 :: l63 :: l64 :: l65 :: l66 :: l67 :: l68 :: l69 :: l70 :: l71 :: l72 :: l73 :: l74 :: l75 :: l76 :: l77 :: l78 :: l79 :: l80 :: l81 :: l82 :: l83 :: l84 :: l85 :: l86 :: l87 :: l88 :: l89 :: l90 :: l91 :: l92 :: l93 :: l94 :: l95 :: l96 :: l97 :: l98 :: l99 :: l100 :: l101 :: l102 :: l103 :: l104 :: l105 :: l106 :: l107 :: l108 :: l109 :: l110 :: l111 :: l112 :: l113 :: l114 :: l115 :: l116 :: l117 :: l118 :: l119 :: l120 :: l121 :: l122 :: l123 :: l124 :: l125 :: l126 :: l127 :: l128 :: l129 :: l130 :: l131 :: l132 :: l133 :: l134 :: l135 :: l136 :: l137 :: l138 :: l139 :: l140 :: l141 :: l142 :: l143 :: l144 :: l145 :: l146 :: l147 :: l148 :: l149 :: l150 :: l151 :: l152 :: l153 :: l154 :: l155 :: l156 :: l157 :: l158 :: l159 :: l160 :: l161 :: l162 :: l163 :: l164 :: l165 :: l166 :: l167 :: l168 :: l169 :: l170 :: l171 :: l172 :: l173 :: l174 :: l175 :: l176 :: l177 :: l178 :: l179 :: l180 :: l181 :: l182 :: l183 :: l184 :: l185 :: l186 :: l187 :: l188 :: l189 :: l190 :: l191 :: l192 :: l193 :: l194 :: l195 :: l196 :: l197 :: l198 :: l199 :: l200 :: l201 :: l202 :: l203 :: l204 :: l205 :: l206 :: l207 :: l208 :: l209 :: l210 :: l211 :: l212 :: l213 :: l214 :: l215 :: l216 :: l217 :: l218 :: l219 :: l220 :: l221 :: l222 :: l223 :: l224 :: l225 :: l226 :: l227 :: l228 :: l229 :: l230 :: l231 :: l232 :: l233 :: l234 :: l235 :: l236 :: l237 :: l238 :: l239 :: l240 :: l241 :: l242 :: l243 :: l244 :: l245 :: l246 :: l247 :: l248 :: l249 :: l250 :: l251 :: l252 :: l253 :: l254 :: l255 :: l256 :: l257 :: l258 :: l259 :: l260 :: l261 :: l262 :: l263 :: l264 :: l265 :: l266 :: l267 :: l268 :: l269 :: l270 :: l271 :: l272 :: l273 :: l274 :: l275 :: l276 :: l277 :: l278 :: l279 :: l280 :: l281 :: l282 :: l283 :: l284 :: l285 :: l286 :: l287 :: l288 :: l289 :: l290 :: l291 :: l292 :: l293 :: l294 :: l295 :: l296 :: l297 :: l298 :: l299 :: l300 :: l301 :: l302 :: l303 :: l304 :: l305 :: l306 :: l307 :: l308 :: l309 :: l310 :: l311 :: l312 :: l313 :: l314 :: l315 :: l316 :: l317 :: l318 :: l319 :: l320 :: l321 :: l322 :: l323 :: l324 :: l325 :: l326 :: l327 :: l328 :: l329 :: l330 :: l331 :: l332 :: l333 :: l334 :: l335 :: l336 :: l337 :: l338 :: l339 :: l340 :: l341 :: l342 :: l343 :: l344 :: l345 :: l346 :: l347 :: l348 :: l349 :: l350 :: l351 :: l352 :: l353 :: l354 :: l355 :: l356 :: l357 :: l358 :: l359 :: l360 :: l361 :: l362 :: l363 :: l364 :: l365 :: l366 :: l367 :: l368 :: l369 :: l370 :: l371 :: l372 :: l373 :: l374 :: l375 :: l376 :: l377 :: l378 :: l379 :: l380 :: l381 :: [])), []⟩ w0 := by
  have HNOW : Hid (∀ W, Below w0.heap.size w0 W → SlI W (some ⟨b1, o1, none⟩) r) := by
    intro W hW
    obtain ⟨A', c', e, _, _, hs⟩ := H0.out.1.below hW
    injection e with e1 e2 e3
    subst e1
    exact hs
  conv => arg 2; arg 1; whnf
  go_loopw [15] (fun i wr => ∃ k : Nat, k ≤ r.length ∧ i = .int .i64 k ∧ Hid (Below w0.heap.size w0 wr)) (fun i _ => r.length - (intOf i).toNat)
  case atStart => exact ⟨0, Nat.zero_le _, rfl, Below.refl _ _⟩
  case round =>
    obtain ⟨k, hk, rfl, HR⟩ := hrel
    by_cases hlt2 : k < r.length
    case neg =>
      go_wp2
      exact ⟨HR.out, _, _, _, _, _, _, _, _, _, _, _, _, _, _, _, _, _, _, _, _, _, _, _, _, _, _, _, _, _, _, _, _, _, _, _, _, _, _, _, _, _, _, _, _, _, _, _, _, _, _, _, _, _, _, _, _, _, _, _, _, _, _, _, _, _, _, _, _, _, _, _, _, _, _, _, _, _, _, _, _, _, _, _, _, _, _, _, _, _, _, _, _, _, _, _, _, _, _, _, _, _, _, _, _, _, _, _, _, _, _, _, _, _, _, _, _, _, _, _, rfl⟩
    have hkw : (Lit.int .i64 (k : Int)).wf = true := WalkArith.wf_i64 (by omega)
    have hpe := perf_end HD.out (k : Int)
    have HPF : Hid (perfF r gs (k : Int) = perfG r gs (k : Int)) := by show _ = _; rw [perfF, HD.out.rat, HD.out.gam, inB_mk (by omega) (by omega)]; rfl
    obtain ⟨P, HP⟩ : ∃ P, Hid (perfG r gs (k : Int) = P) := ⟨_, rfl⟩
    rw [HP.out] at hpe HPF
    have hP0 := hpe.lo
    have hP1 := hpe.hi
    obtain ⟨P', hP'⟩ : ∃ P' : Int, (P = 0 ∧ P' = 0) ∨ (0 < P ∧ P' = P - 1) := by
      rcases Int.lt_or_le 0 P with h | h
      · exact ⟨P - 1, .inr ⟨h, rfl⟩⟩
      · exact ⟨0, .inl ⟨by omega, rfl⟩⟩
    have HPE := Lib.hid hpe
    clear hpe
    have hmax : max 0 (P - 1) = P' := by omega
    have hmx2 : (if (0 : Int) < P - 1 then P - 1 else 0) = P' := by split <;> omega
    have hP'0 : 0 ≤ P' ∧ P' ≤ 4000 := by omega
    have HPD := Lib.hid hP'
    have HMX := Lib.hid (And.intro hmax hmx2)
    clear hP' hmax hmx2
    go_wp2_with (go_at_call 16; refine (implPerformanceOf_std _ r _ gs (k : Int) _ (H0.out.1.below HR.out) (by omega) (H0.out.2.below HR.out) HD.out.bulk hkw).mono ?_; rintro e w5 ⟨rfl, hb5⟩; rw [HPF.out]; have H5 : Hid (Below w0.heap.size w0 w5) := HR.out.trans (hb5.mono HR.out.size); clear hb5)
    go_loop [17, 18, 19, 20, 272] (fun a' b' c' d' i => ∃ (m : Nat) (a b c d : Int), m ≤ gs.length ∧ i = .int .i64 m ∧ a' = .int .i64 a ∧ b' = .int .i64 b ∧ c' = .int .i64 c ∧ d' = .int .i64 d ∧ Hid (PerfAt r gs k P P' m a b c d)) (fun _ _ _ _ i => gs.length - (intOf i).toNat)
    case atStart => exact ⟨0, 0, 0, 0, 0, Nat.zero_le _, rfl, rfl, rfl, rfl, rfl, ⟨rfl, rfl, rfl, rfl⟩⟩
    case round =>
      obtain ⟨m, a, b, c', d, hm, rfl, rfl, rfl, rfl, rfl, HA⟩ := hrel
      obtain ⟨z1, z2, z3, z4, z5, z6, z7, z8⟩ := HA.out.bd HD.out.games (by omega)
      by_cases hlt3 : m < gs.length
      case pos =>
        obtain ⟨b2, o2, u, g, rfl, hg1, hg2, hg3, _⟩ := (H0.out.2.below H5.out).at_ (k := m) hlt3
        have hgo := HD.out.games g (List.mem_of_getElem? hg1)
        obtain ⟨i, j, h, x, y, rfl, hx, hy, hij, h0, h2⟩ := game_at hgo
        obtain ⟨A6, c6, rfl, -, -, hsl6⟩ := hg3
        obtain ⟨bg, og, y0, rfl, e0, q0, hbg⟩ := hsl6.at_ (k := 0) (by simp)
        obtain ⟨bg', og', y1, ea1, e1, q1, _⟩ := hsl6.at_ (k := 1) (by simp)
        injection ea1 with ea1; injection ea1 with ea1 ea2 _; subst ea1; subst ea2
        obtain ⟨bg', og', y2, ea1, e2, q2', _⟩ := hsl6.at_ (k := 2) (by simp)
        injection ea1 with ea1; injection ea1 with ea1 ea2 _; subst ea1; subst ea2
        simp only [List.getElem?_cons_zero, List.getElem?_cons_succ, Option.some.injEq] at e0 e1 e2
        subst e0; subst e1; subst e2
        have hi5 := (List.getElem?_eq_some_iff.1 hx).1
        have hk5 := (List.getElem?_eq_some_iff.1 hy).1
        have hxr := HD.out.near x (List.mem_of_getElem? hx)
        have hyr := HD.out.near y (List.mem_of_getElem? hy)
        have hexp : ∀ (p q : Int), 0 ≤ p → p ≤ 4000 → 0 ≤ q → q ≤ 4000 → ∀ W, Calls Try.prog 15 #[.int .i64 p, .int .i64 q] W fun e w' => e = .returned (.int .i64 (expd p q)) ∧ W = w' := by
          intro p q p0 p1 q0 q1 W
          have h1 := implExpectedScore_any p q W
          rwa [expdF, if_pos (by rw [isR_t.2 ⟨p0, p1⟩, isR_t.2 ⟨q0, q1⟩]; rfl)] at h1
        have hsr : SlI w5 (some ⟨b1, o1, none⟩) r := HNOW.out _ H5.out
        replace q0 : w5.cell? ⟨bg, og, none⟩ = some (.int .i64 (i : Int)) := q0
        by_cases c1 : (i : Int) = k
        · obtain ⟨f1, f2⟩ := foeOf_one (h := h) c1 hy
          have HIT := Lib.hid (HA.out.hit hg1 f1 f2)
          obtain ⟨b', o', yy, ea1, ey, qy, _⟩ := hsr.at_ (k := j) hk5
          injection ea1 with ea1; injection ea1 with ea1 ea2 _; subst ea1; subst ea2
          rw [hy] at ey; injection ey with ey; subst ey
          have t1 : ((i : Int) == (k : Int)) = true := by simp [c1]
          have t2 : ((j : Int) == (k : Int)) = false := by simp; omega
          have E1 := Lib.hid (hexp P y hP0 hP1 (by omega) (by omega))
          have E2 := Lib.hid (hexp P' y hP'0.1 hP'0.2 (by omega) (by omega))
          have hb1 := expd_bd P y
          have hb2 := expd_bd P' y
          generalize expd P y = s1 at *
          generalize expd P' y = s2 at *
          have hmx1 := HMX.out.1
          have hmx2 := HMX.out.2
          clear c1 hexp hsr hsl6 hx hy f1 f2 hg1 hgo HA
          refine ratHit1 w5 r gs b1 o1 c1 c2 k m _ P P' a b c' d s1 s2 h (a + h) (b + 1) (c' + s1) (d + s2) b2 o2 bg og c6 i j hr5 hg5 hlt3 hi5 hk5 h0 h2 hP0 hP1 (by omega) (by omega) (by omega) rfl hg2 q0 q1 q2' y t1 t2 qy E1 E2 hmx1 hmx2 rfl rfl rfl rfl _ _ _ _ _ _ _ _ _ _ _ _ _ _ _ _ _ _ _ _ _ _ _ _ _ _ _ _ _ _ _ _ _ _ _ _ _ _ _ _ _ _ _ _ _ _ _ _ _ _ _ _ _ _ _ _ _ _ _ _ _ _ _ _ _ _ _ _ _ _ _ _ _ _ _ _ _ _ _ _ _ _ _ _ _ _ _ _ _ _ _ _ _ _ _ _ _ _ _ _ _ _ _ _ _ _ _ _ _ _ _ _ _ _ _ _ _ _ _ _ _ _ _ _ _ _ _ _ _ _ _ _ _ _ _ _ _ _ _ _ _ _ _ _ _ _ _ _ _ _ _ _ _ _ _ _ _ _ _ _ _ _ _ _ _ _ _ _ _ _ _ _ _ _ _ _ _ _ _ _ _ _ _ _ _ _ _ _ _ _ _ _ _ _ _ _ _ _ _ _ _ _ _ _ _ _ _ _ _ _ _ _ _ _ _ _ _ _ _ _ _ _ _ _ _ _ _ _ _ _ _ _ _ _ _ _ _ _ _ _ _ _ _ _ _ _ _ _ _ _ _ _ _ _ _ _ _ _ _ _ _ _ _ _ _ _ _ _ _ _ _ _ _ _ _ _ _ _ _ _ _ _ _ _ _ _ _ _ _ _ _ _ _ _ _ _ _ _ _ _ _ _ _ _ _ _ _ _ _ _ _ _ _ _ _ _ _ _ _ _ _ _ _ _ _ _ _ _ _ _ _ _ _ _ _ _ _ _ _ _ _ _ _ _ _ _ _ _ _ _ _ _ _ _ _ _ _ _ _ _ _ _ _ _ _ _ _ _ _ _ _ _ _ ?_
          intro a' w'' hx
          obtain ⟨rfl, hx⟩ := hx
          obtain ⟨e22, hx⟩ := hx
          obtain ⟨e23, hx⟩ := hx
          obtain ⟨e273, hx⟩ := hx
          obtain ⟨e274, hx⟩ := hx
          obtain ⟨e275, hx⟩ := hx
          obtain ⟨e276, hx⟩ := hx
          obtain ⟨e277, hx⟩ := hx
          obtain ⟨e278, hx⟩ := hx
          obtain ⟨e279, hx⟩ := hx
          obtain ⟨e280, hx⟩ := hx
          obtain ⟨e281, hx⟩ := hx
          obtain ⟨e282, hx⟩ := hx
          obtain ⟨e283, hx⟩ := hx
          obtain ⟨e284, hx⟩ := hx
          obtain ⟨e285, hx⟩ := hx
          obtain ⟨e286, hx⟩ := hx
          obtain ⟨e287, hx⟩ := hx
          obtain ⟨e288, hx⟩ := hx
          obtain ⟨e289, hx⟩ := hx
          obtain ⟨e290, hx⟩ := hx
          obtain ⟨e291, hx⟩ := hx
          obtain ⟨e292, hx⟩ := hx
          obtain ⟨e293, hx⟩ := hx
          obtain ⟨e294, hx⟩ := hx
          obtain ⟨e295, hx⟩ := hx
          obtain ⟨e296, hx⟩ := hx
          obtain ⟨e297, hx⟩ := hx
          obtain ⟨e298, hx⟩ := hx
          obtain ⟨e299, hx⟩ := hx
          obtain ⟨e300, hx⟩ := hx
          obtain ⟨e301, hx⟩ := hx
          obtain ⟨e302, hx⟩ := hx
          obtain ⟨e303, hx⟩ := hx
          obtain ⟨e304, hx⟩ := hx
          obtain ⟨e305, hx⟩ := hx
          obtain ⟨e306, hx⟩ := hx
          obtain ⟨e307, hx⟩ := hx
          obtain ⟨e308, hx⟩ := hx
          obtain ⟨e309, hx⟩ := hx
          obtain ⟨e310, hx⟩ := hx
          obtain ⟨e311, hx⟩ := hx
          obtain ⟨e312, hx⟩ := hx
          obtain ⟨e313, hx⟩ := hx
          obtain ⟨e314, hx⟩ := hx
          obtain ⟨e315, hx⟩ := hx
          obtain ⟨e316, hx⟩ := hx
          obtain ⟨e317, hx⟩ := hx
          obtain ⟨e318, hx⟩ := hx
          obtain ⟨e319, hx⟩ := hx
          obtain ⟨e320, hx⟩ := hx
          obtain ⟨e321, hx⟩ := hx
          obtain ⟨e322, hx⟩ := hx
          obtain ⟨e323, hx⟩ := hx
          obtain ⟨e324, hx⟩ := hx
          obtain ⟨e325, hx⟩ := hx
          subst hx
          try go_wp2
          go_round
          case rel => exact ⟨m + 1, a + h, b + 1, c' + s1, d + s2, by omega, by go_num, by go_num, by go_num, by go_num, by go_num, HIT.out⟩
          case measure => simp [intOf]; omega
        · by_cases c2 : (j : Int) = k
          · obtain ⟨f1, f2⟩ := foeOf_two (h := h) c1 c2 hx
            have HIT := Lib.hid (HA.out.hit hg1 f1 f2)
            obtain ⟨b', o', yy, ea1, ey, qy, _⟩ := hsr.at_ (k := i) hi5
            injection ea1 with ea1; injection ea1 with ea1 ea2 _; subst ea1; subst ea2
            rw [hx] at ey; injection ey with ey; subst ey
            have t1 : ((i : Int) == (k : Int)) = false := by simp; omega
            have t2 : ((j : Int) == (k : Int)) = true := by simp [c2]
            have E1 := Lib.hid (hexp P x hP0 hP1 (by omega) (by omega))
            have E2 := Lib.hid (hexp P' x hP'0.1 hP'0.2 (by omega) (by omega))
            have hb1 := expd_bd P x
            have hb2 := expd_bd P' x
            generalize expd P x = s1 at *
            generalize expd P' x = s2 at *
            have hmx1 := HMX.out.1
            have hmx2 := HMX.out.2
            clear c1 c2 hexp hsr hsl6 hx hy f1 f2 hg1 hgo HA
            refine ratHit2 w5 r gs b1 o1 c1 c2 k m _ P P' a b c' d s1 s2 h (a + (2 - h)) (b + 1) (c' + s1) (d + s2) b2 o2 bg og c6 i j hr5 hg5 hlt3 hi5 hk5 h0 h2 hP0 hP1 (by omega) (by omega) (by omega) rfl hg2 q0 q1 q2' x t1 t2 qy E1 E2 hmx1 hmx2 (by omega) rfl rfl rfl _ _ _ _ _ _ _ _ _ _ _ _ _ _ _ _ _ _ _ _ _ _ _ _ _ _ _ _ _ _ _ _ _ _ _ _ _ _ _ _ _ _ _ _ _ _ _ _ _ _ _ _ _ _ _ _ _ _ _ _ _ _ _ _ _ _ _ _ _ _ _ _ _ _ _ _ _ _ _ _ _ _ _ _ _ _ _ _ _ _ _ _ _ _ _ _ _ _ _ _ _ _ _ _ _ _ _ _ _ _ _ _ _ _ _ _ _ _ _ _ _ _ _ _ _ _ _ _ _ _ _ _ _ _ _ _ _ _ _ _ _ _ _ _ _ _ _ _ _ _ _ _ _ _ _ _ _ _ _ _ _ _ _ _ _ _ _ _ _ _ _ _ _ _ _ _ _ _ _ _ _ _ _ _ _ _ _ _ _ _ _ _ _ _ _ _ _ _ _ _ _ _ _ _ _ _ _ _ _ _ _ _ _ _ _ _ _ _ _ _ _ _ _ _ _ _ _ _ _ _ _ _ _ _ _ _ _ _ _ _ _ _ _ _ _ _ _ _ _ _ _ _ _ _ _ _ _ _ _ _ _ _ _ _ _ _ _ _ _ _ _ _ _ _ _ _ _ _ _ _ _ _ _ _ _ _ _ _ _ _ _ _ _ _ _ _ _ _ _ _ _ _ _ _ _ _ _ _ _ _ _ _ _ _ _ _ _ _ _ _ _ _ _ _ _ _ _ _ _ _ _ _ _ _ _ _ _ _ _ _ _ _ _ _ _ _ _ _ _ _ _ _ _ _ _ _ _ _ _ _ _ _ _ _ _ _ _ _ _ _ _ _ _ ?_
            intro a' w'' hx
            obtain ⟨rfl, hx⟩ := hx
            obtain ⟨e22, hx⟩ := hx
            obtain ⟨e23, hx⟩ := hx
            obtain ⟨e273, hx⟩ := hx
            obtain ⟨e274, hx⟩ := hx
            obtain ⟨e275, hx⟩ := hx
            obtain ⟨e276, hx⟩ := hx
            obtain ⟨e277, hx⟩ := hx
            obtain ⟨e278, hx⟩ := hx
            obtain ⟨e279, hx⟩ := hx
            obtain ⟨e280, hx⟩ := hx
            obtain ⟨e281, hx⟩ := hx
            obtain ⟨e282, hx⟩ := hx
            obtain ⟨e283, hx⟩ := hx
            obtain ⟨e284, hx⟩ := hx
            obtain ⟨e285, hx⟩ := hx
            obtain ⟨e286, hx⟩ := hx
            obtain ⟨e287, hx⟩ := hx
            obtain ⟨e288, hx⟩ := hx
            obtain ⟨e289, hx⟩ := hx
            obtain ⟨e290, hx⟩ := hx
            obtain ⟨e291, hx⟩ := hx
            obtain ⟨e292, hx⟩ := hx
            obtain ⟨e293, hx⟩ := hx
            obtain ⟨e294, hx⟩ := hx
            obtain ⟨e295, hx⟩ := hx
            obtain ⟨e296, hx⟩ := hx
            obtain ⟨e297, hx⟩ := hx
            obtain ⟨e298, hx⟩ := hx
            obtain ⟨e299, hx⟩ := hx
            obtain ⟨e300, hx⟩ := hx
            obtain ⟨e301, hx⟩ := hx
            obtain ⟨e302, hx⟩ := hx
            obtain ⟨e303, hx⟩ := hx
            obtain ⟨e304, hx⟩ := hx
            obtain ⟨e305, hx⟩ := hx
            obtain ⟨e306, hx⟩ := hx
            obtain ⟨e307, hx⟩ := hx
            obtain ⟨e308, hx⟩ := hx
            obtain ⟨e309, hx⟩ := hx
            obtain ⟨e310, hx⟩ := hx
            obtain ⟨e311, hx⟩ := hx
            obtain ⟨e312, hx⟩ := hx
            obtain ⟨e313, hx⟩ := hx
            obtain ⟨e314, hx⟩ := hx
            obtain ⟨e315, hx⟩ := hx
            obtain ⟨e316, hx⟩ := hx
            obtain ⟨e317, hx⟩ := hx
            obtain ⟨e318, hx⟩ := hx
            obtain ⟨e319, hx⟩ := hx
            obtain ⟨e320, hx⟩ := hx
            obtain ⟨e321, hx⟩ := hx
            obtain ⟨e322, hx⟩ := hx
            obtain ⟨e323, hx⟩ := hx
            obtain ⟨e324, hx⟩ := hx
            obtain ⟨e325, hx⟩ := hx
            subst hx
            try go_wp2
            go_round
            case rel => exact ⟨m + 1, a + (2 - h), b + 1, c' + s1, d + s2, by omega, by go_num, by go_num, by go_num, by go_num, by go_num, HIT.out⟩
            case measure => simp [intOf]; omega
          · obtain ⟨f1, f2⟩ := foeOf_no (r := r) (h := h) c1 c2
            have HIT := Lib.hid (HA.out.miss hg1 f1 f2)
            have t1 : ((i : Int) == (k : Int)) = false := by simp; omega
            have t2 : ((j : Int) == (k : Int)) = false := by simp; omega
            clear c1 c2 hexp hsr hsl6 hx hy f1 f2 hg1 hgo HA
            refine ratMiss w5 r gs b1 o1 c1 c2 k m _ P P' a b c' d 0 0 h a b c' d b2 o2 bg og c6 i j hr5 hg5 hlt3 hi5 hk5 h0 h2 hP0 hP1 (by omega) (by omega) (by omega) rfl hg2 q0 q1 q2' t1 t2 rfl rfl rfl rfl _ _ _ _ _ _ _ _ _ _ _ _ _ _ _ _ _ _ _ _ _ _ _ _ _ _ _ _ _ _ _ _ _ _ _ _ _ _ _ _ _ _ _ _ _ _ _ _ _ _ _ _ _ _ _ _ _ _ _ _ _ _ _ _ _ _ _ _ _ _ _ _ _ _ _ _ _ _ _ _ _ _ _ _ _ _ _ _ _ _ _ _ _ _ _ _ _ _ _ _ _ _ _ _ _ _ _ _ _ _ _ _ _ _ _ _ _ _ _ _ _ _ _ _ _ _ _ _ _ _ _ _ _ _ _ _ _ _ _ _ _ _ _ _ _ _ _ _ _ _ _ _ _ _ _ _ _ _ _ _ _ _ _ _ _ _ _ _ _ _ _ _ _ _ _ _ _ _ _ _ _ _ _ _ _ _ _ _ _ _ _ _ _ _ _ _ _ _ _ _ _ _ _ _ _ _ _ _ _ _ _ _ _ _ _ _ _ _ _ _ _ _ _ _ _ _ _ _ _ _ _ _ _ _ _ _ _ _ _ _ _ _ _ _ _ _ _ _ _ _ _ _ _ _ _ _ _ _ _ _ _ _ _ _ _ _ _ _ _ _ _ _ _ _ _ _ _ _ _ _ _ _ _ _ _ _ _ _ _ _ _ _ _ _ _ _ _ _ _ _ _ _ _ _ _ _ _ _ _ _ _ _ _ _ _ _ _ _ _ _ _ _ _ _ _ _ _ _ _ _ _ _ _ _ _ _ _ _ _ _ _ _ _ _ _ _ _ _ _ _ _ _ _ _ _ _ _ _ _ _ _ _ _ _ _ _ _ _ _ _ _ _ _ ?_
            intro a' w'' hx
            obtain ⟨rfl, hx⟩ := hx
            obtain ⟨e22, hx⟩ := hx
            obtain ⟨e23, hx⟩ := hx
            obtain ⟨e273, hx⟩ := hx
            obtain ⟨e274, hx⟩ := hx
            obtain ⟨e275, hx⟩ := hx
            obtain ⟨e276, hx⟩ := hx
            obtain ⟨e277, hx⟩ := hx
            obtain ⟨e278, hx⟩ := hx
            obtain ⟨e279, hx⟩ := hx
            obtain ⟨e280, hx⟩ := hx
            obtain ⟨e281, hx⟩ := hx
            obtain ⟨e282, hx⟩ := hx
            obtain ⟨e283, hx⟩ := hx
            obtain ⟨e284, hx⟩ := hx
            obtain ⟨e285, hx⟩ := hx
            obtain ⟨e286, hx⟩ := hx
            obtain ⟨e287, hx⟩ := hx
            obtain ⟨e288, hx⟩ := hx
            obtain ⟨e289, hx⟩ := hx
            obtain ⟨e290, hx⟩ := hx
            obtain ⟨e291, hx⟩ := hx
            obtain ⟨e292, hx⟩ := hx
            obtain ⟨e293, hx⟩ := hx
            obtain ⟨e294, hx⟩ := hx
            obtain ⟨e295, hx⟩ := hx
            obtain ⟨e296, hx⟩ := hx
            obtain ⟨e297, hx⟩ := hx
            obtain ⟨e298, hx⟩ := hx
            obtain ⟨e299, hx⟩ := hx
            obtain ⟨e300, hx⟩ := hx
            obtain ⟨e301, hx⟩ := hx
            obtain ⟨e302, hx⟩ := hx
            obtain ⟨e303, hx⟩ := hx
            obtain ⟨e304, hx⟩ := hx
            obtain ⟨e305, hx⟩ := hx
            obtain ⟨e306, hx⟩ := hx
            obtain ⟨e307, hx⟩ := hx
            obtain ⟨e308, hx⟩ := hx
            obtain ⟨e309, hx⟩ := hx
            obtain ⟨e310, hx⟩ := hx
            obtain ⟨e311, hx⟩ := hx
            obtain ⟨e312, hx⟩ := hx
            obtain ⟨e313, hx⟩ := hx
            obtain ⟨e314, hx⟩ := hx
            obtain ⟨e315, hx⟩ := hx
            obtain ⟨e316, hx⟩ := hx
            obtain ⟨e317, hx⟩ := hx
            obtain ⟨e318, hx⟩ := hx
            obtain ⟨e319, hx⟩ := hx
            obtain ⟨e320, hx⟩ := hx
            obtain ⟨e321, hx⟩ := hx
            obtain ⟨e322, hx⟩ := hx
            obtain ⟨e323, hx⟩ := hx
            obtain ⟨e324, hx⟩ := hx
            obtain ⟨e325, hx⟩ := hx
            subst hx
            try go_wp2
            go_round
            case rel => exact ⟨m + 1, a, b, c', d, by omega, by go_num, rfl, rfl, rfl, rfl, HIT.out⟩
            case measure => simp [intOf]; omega
      obtain rfl : m = gs.length := by omega
      have HZ : Hid ((P < 4000 → 500 * a ≤ c') ∧ (0 < P → d < 500 * a) ∧ (b = 0 → P = 0) ∧ (P = 4000 → 950 * b < 500 * a)) := by
        obtain ⟨e1, e2, e3, e4⟩ := HA.out
        rw [List.take_length] at e1 e2 e3 e4
        have hpe := HPE.out
        refine ⟨fun h => ?_, fun h => ?_, fun h => ?_, fun h => ?_⟩
        · rw [e1, e3]; exact hpe.at_ h
        · rcases HPD.out with ⟨h1, _⟩ | ⟨_, h1⟩
          · omega
          · rw [e1, e4, h1]; exact hpe.under h
        · exact hpe.none (by omega)
        · rw [e1, e2]; exact hpe.top h
      have hcs : (P < 4000 ∧ ¬ P = 4000 ∧ P = 0 ∧ ¬ c' < 500 * a) ∨ (P < 4000 ∧ ¬ P = 4000 ∧ 0 < P ∧ ¬ c' < 500 * a ∧ ¬ 500 * a ≤ d ∧ ¬ b = 0) ∨ (P = 4000 ∧ 0 < P ∧ ¬ 500 * a ≤ d ∧ ¬ b = 0 ∧ ¬ 500 * a ≤ 950 * b) := by
        obtain ⟨y1, y2, y3, y4⟩ := HZ.out
        omega
      clear HA HZ
      go_upto_region 44 with (fail)
      go_cut [370] from 273 to 369 (fun s wx => s = .bool false ∧ wx = w5)
      case first =>
        rcases hcs with ⟨u1, u2, u3, u4⟩ | ⟨u1, u2, u3, u4, u5, u6⟩ | ⟨u1, u2, u3, u4, u5⟩
        · have u6 : (P != 0) = false := by simp [u3]
          have u7 : (P == 4000) = false := by simp [u2]
          have u9 : ¬ 0 < P := by omega
          have u10 : ¬ 4000 < P := by omega
          have u11 : ¬ P < 0 := by omega
          have u12 : (b == 0) = true ∨ (b == 0) = false := by cases h : (b == 0) <;> simp
          clear u3
          rcases u12 with u8 | u8
          all_goals
            as_aux_lemma =>
              go_wp2
              go_meet
              case rel => exact ⟨by first | rfl | (simp; omega), rfl⟩
        · have u7 : (P == 4000) = false := by simp [u2]
          have u8 : (b == 0) = false := by simp [u6]
          as_aux_lemma =>
            go_wp2
            go_meet
            case rel => exact ⟨by simp; omega, rfl⟩
        · have u7 : (P == 4000) = true := by simp [u1]
          have u8 : (b == 0) = false := by simp [u4]
          have u9 : ¬ P < 4000 := by omega
          have u10 : ¬ 4000 < P := by omega
          have u11 : ¬ P < 0 := by omega
          clear u1
          as_aux_lemma =>
            go_wp2
            go_meet
            case rel => exact ⟨by first | rfl | (simp; omega), rfl⟩
      case rest =>
        obtain ⟨rfl, rfl⟩ := hcut
        go_wp2
        go_roundw
        all_goals first | exact ⟨k + 1, by omega, by go_num, H5.out⟩ | (simp [intOf]; try omega)
end Go.Proofs.Ytihoflfokiijdaa
