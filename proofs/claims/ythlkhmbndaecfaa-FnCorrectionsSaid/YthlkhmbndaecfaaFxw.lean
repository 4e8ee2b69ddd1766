/- FnCorrections: the loop over clubs, as a theorem of its own (printed by print/fxloop.py). -/
import Derived.Test.YthlkhmbndaecfaaFxd
import Derived.BigQuiet
import Derived.Deep.QuietTactic
import Derived.Deep.RegionHeld3
namespace Go.Proofs.Ythlkhmbndaecfaa
open Go.ChangeShapes Go.WideShapes Go.ChangeAt Go.RowKit

theorem natEq_false {a b : Int} (h : a = b) : (a != b) = false := by simp [h]
def loopsOf : Code → List Code
  | .loop c => c :: loopsOf c
  | .seq a b => loopsOf a ++ loopsOf b
  | .block _ c => loopsOf c
  | .scope c => loopsOf c
  | .cond _ a b => loopsOf a ++ loopsOf b
  | _ => []
def leftReg : Code → Option Nat
  | .region k _ _ => some k
  | .seq a _ => leftReg a
  | _ => none
/-- The code that begins with region r. -/
def codeAt (r : Nat) : Code → List Code
  | .seq a b => if leftReg a = some r then [.seq a b] else codeAt r a ++ codeAt r b
  | .block _ c => codeAt r c
  | .scope c => codeAt r c
  | .cond _ a b => codeAt r a ++ codeAt r b
  | .loop c => codeAt r c
  | _ => []
noncomputable def fxBody2 : Code := ((Try.f3.body.map loopsOf).getD []).getD 1 .skip
noncomputable def fxTailC : Code := ((Try.f3.body.map (codeAt 31)).getD []).getD 0 .skip
set_option maxHeartbeats 4000000 in
set_option maxRecDepth 100000 in
theorem fxLoop2 (W3 wo : World) (n m M1 b bl ol bf of cl cf c : Nat) (A : Option Addr) (rs : List Res) (HX : Hid (Lx ⟨(n : Int), rs⟩ n m)) (h6 : n ≤ 6) (h12 : m ≤ 12) (hn2 : 2 ≤ n) (_hmc : m ≤ c) (_hcc : c ≤ 2 ^ 63 - 1) (hM1 : m + 1 = M1) (HLm : Hid (rs.length = m))
    (C3 : Hid (FxC W3 (.agg #[.int .i64 (n : Int), .slice A m c]) n m rs)) (KQ3 : Hid (∀ W, Below W3.heap.size W3 W → W.cell? ⟨b, 0, none⟩ = some (.int .i64 (n : Int)) ∧ W.cell? ⟨b, 1, none⟩ = some (.slice A m c)))
    (HCL : Hid (∀ W, Below W3.heap.size W3 W → ∀ (j : Nat) (y : Int), (leadF ⟨(n : Int), rs⟩)[j]? = some y → W.cell? ⟨bl, ol + j, none⟩ = some (.int .i64 y)))
    (HCF : Hid (∀ W, Below W3.heap.size W3 W → ∀ (j : Nat) (y : Int), (tableF n rs)[j]? = some y → W.cell? ⟨bf, of + j, none⟩ = some (.int .i64 y)))
    (HLen : Hid ((leadF ⟨(n : Int), rs⟩).length = M1)) (HR0 : Hid (Below W3.heap.size W3 wo)) (Q0 : Exit → Act → World → Prop) (l0 l1 l2 l8 l9 l10 l12 l13 l14 l15 l16 l17 l18 l19 l20 l21 l22 l23 l24 l25 l26 l27 l28 l29 l30 l31 l32 l33 l34 l35 l36 l37 l38 l39 l40 l41 l42 l43 l44 l45 l46 l47 l48 l49 l50 l51 l52 l53 l54 l55 l56 l57 l58 l59 l60 l61 l62 l63 l64 l65 l66 l67 l68 l69 l70 l71 l72 l73 l74 l75 l76 l77 l78 l79 l80 l81 l82 l83 l84 l85 l86 l87 l88 l89 l90 l91 l92 l93 l94 l95 l96 l97 l98 l99 l100 l101 l102 l103 l104 l105 l106 l107 l108 l109 l110 l111 l112 l113 l114 l115 l116 l117 l118 l119 l120 l121 l122 l123 l124 l125 l126 l127 l128 l129 l130 l131 l132 l133 l134 l135 l136 l137 l138 l139 l140 l141 l142 l143 l144 l145 l146 l147 l148 l149 l150 l151 l152 l153 l154 l155 l156 l157 l158 l159 l160 l161 l162 l163 l164 l165 l166 l167 l168 l169 l170 l171 l172 l173 l174 l175 l176 l177 l178 l179 l180 l181 l182 l183 l184 l185 l186 l187 l188 l189 l190 l191 l192 l193 l194 l195 l196 l197 l198 l199 l200 l201 l202 l203 l204 l205 l206 l207 l208 l209 l210 l211 l212 l213 l214 l215 l216 l217 l218 l219 l220 l221 l222 l223 l224 l225 l226 l227 l228 l229 l230 l231 l232 l233 l234 l235 l236 l237 l238 l239 l240 l241 l242 l243 l244 l245 l246 l247 l248 l249 l250 l251 l252 l253 l254 l255 l256 l257 l258 l259 l260 l261 l262 l263 l264 l265 l266 l267 l268 l269 l270 l271 l272 l273 l274 l275 l276 l277 l278 l279 l280 l281 l282 l283 l284 l285 l286 l287 l288 l289 l290 l291 l292 l293 l294 l295 l296 l297 l298 l299 l300 l301 l302 l303 l304 l305 l306 l307 l308 l309 l310 l311 l312 l313 l314 l315 l316 l317 l318 l319 l320 l321 l322 l323 l324 l325 l326 l327 l328 l329 l330 l331 l332 l333 l334 l335 l336 l337 l338 l339 l340 l341 l342 l343 l344 l345 l346 l347 l348 l349 l350 l351 l352 l353 l354 l355 l356 l357 l358 l359 l360 l361 l362 l363 l364 l365 l366 l367 l368 l369 l370 l371 l372 l373 l374 l375 l376 l377 l378 l379 l380 l381 l382 l383 l384 l385 l386 l387 : Value)
    (hexit : ∀ (a' : Act) (w'' : World), (Below W3.heap.size W3 w'' ∧ ∃ (e2 e11 e12 e13 e14 e114 e115 e116 e117 e118 e119 e120 e121 e122 e123 e124 e125 e126 e127 e128 e129 e130 e131 e132 e133 e134 e135 e136 e137 e138 e139 e140 e141 e142 e143 e144 e145 e146 e147 e148 e149 e150 e151 e152 e153 e154 e155 e156 e157 e158 e159 e160 e161 e162 e163 e164 e165 e166 e167 e168 e169 e170 : Value), a' = ⟨(List.toArray (l0 :: l1 :: e2 :: (.pointer (some ⟨b, 0, none⟩) : Value) :: (.int .i64 (n : Int) : Value) :: (.int .i64 (m : Int) : Value) :: (.slice (some ⟨bl, ol, none⟩) M1 cl : Value) :: (.slice (some ⟨bf, of, none⟩) n cf : Value) :: l8 :: l9 :: l10 :: e11 :: e12 :: e13 :: e14 :: l15 :: l16 :: l17 :: l18 :: l19 :: l20 :: l21 :: l22 :: l23 :: l24 :: l25 :: l26 :: l27 :: l28 :: l29 :: l30 :: l31 :: l32 :: l33 :: l34 :: l35 :: l36 :: l37 :: l38 :: l39 :: l40 :: l41 :: l42 :: l43 :: l44 :: l45 :: l46 :: l47 :: l48 :: l49 :: l50 :: l51 :: l52 :: l53 :: l54 :: l55 :: l56 :: l57 :: l58 :: l59 :: l60 :: l61 :: l62 :: l63 :: l64 :: l65 :: l66 :: l67 :: l68 :: l69 :: l70 :: l71 :: l72 :: l73 :: l74 :: l75 :: l76 :: l77 :: l78 :: l79 :: l80 :: l81 :: l82 :: l83 :: l84 :: l85 :: l86 :: l87 :: l88 :: l89 :: l90 :: l91 :: l92 :: l93 :: l94 :: l95 :: l96 :: l97 :: l98 :: l99 :: l100 :: l101 :: l102 :: l103 :: l104 :: l105 :: l106 :: l107 :: l108 :: l109 :: l110 :: l111 :: l112 :: l113 :: e114 :: e115 :: e116 :: e117 :: e118 :: e119 :: e120 :: e121 :: e122 :: e123 :: e124 :: e125 :: e126 :: e127 :: e128 :: e129 :: e130 :: e131 :: e132 :: e133 :: e134 :: e135 :: e136 :: e137 :: e138 :: e139 :: e140 :: e141 :: e142 :: e143 :: e144 :: e145 :: e146 :: e147 :: e148 :: e149 :: e150 :: e151 :: e152 :: e153 :: e154 :: e155 :: e156 :: e157 :: e158 :: e159 :: e160 :: e161 :: e162 :: e163 :: e164 :: e165 :: e166 :: e167 :: e168 :: e169 :: e170 :: l171 :: l172 :: l173 :: l174 :: l175 :: l176 :: l177 :: l178 :: l179 :: l180 :: l181 :: l182 :: l183 :: l184 :: l185 :: l186 :: l187 :: l188 :: l189 :: l190 :: l191 :: l192 :: l193 :: l194 :: l195 :: l196 :: l197 :: l198 :: l199 :: l200 :: l201 :: l202 :: l203 :: l204 :: l205 :: l206 :: l207 :: l208 :: l209 :: l210 :: l211 :: l212 :: l213 :: l214 :: l215 :: l216 :: l217 :: l218 :: l219 :: l220 :: l221 :: l222 :: l223 :: l224 :: l225 :: l226 :: l227 :: l228 :: l229 :: l230 :: l231 :: l232 :: l233 :: l234 :: l235 :: l236 :: l237 :: l238 :: l239 :: l240 :: l241 :: l242 :: l243 :: l244 :: l245 :: l246 :: l247 :: l248 :: l249 :: l250 :: l251 :: l252 :: l253 :: l254 :: l255 :: l256 :: l257 :: l258 :: l259 :: l260 :: l261 :: l262 :: l263 :: l264 :: l265 :: l266 :: l267 :: l268 :: l269 :: l270 :: l271 :: l272 :: l273 :: l274 :: l275 :: l276 :: l277 :: l278 :: l279 :: l280 :: l281 :: l282 :: l283 :: l284 :: l285 :: l286 :: l287 :: l288 :: l289 :: l290 :: l291 :: l292 :: l293 :: l294 :: l295 :: l296 :: l297 :: l298 :: l299 :: l300 :: l301 :: l302 :: l303 :: l304 :: l305 :: l306 :: l307 :: l308 :: l309 :: l310 :: l311 :: l312 :: l313 :: l314 :: l315 :: l316 :: l317 :: l318 :: l319 :: l320 :: l321 :: l322 :: l323 :: l324 :: l325 :: l326 :: l327 :: l328 :: l329 :: l330 :: l331 :: l332 :: l333 :: l334 :: l335 :: l336 :: l337 :: l338 :: l339 :: l340 :: l341 :: l342 :: l343 :: l344 :: l345 :: l346 :: l347 :: l348 :: l349 :: l350 :: l351 :: l352 :: l353 :: l354 :: l355 :: l356 :: l357 :: l358 :: l359 :: l360 :: l361 :: l362 :: l363 :: l364 :: l365 :: l366 :: l367 :: l368 :: l369 :: l370 :: l371 :: l372 :: l373 :: l374 :: l375 :: l376 :: l377 :: l378 :: l379 :: l380 :: l381 :: l382 :: l383 :: l384 :: l385 :: l386 :: l387 :: [])), []⟩) → Q0 (.exit 2) a' w'') :
    Code.wp Try.prog (Code.loop fxBody2) Q0 ⟨(List.toArray (l0 :: l1 :: l2 :: (.pointer (some ⟨b, 0, none⟩) : Value) :: (.int .i64 (n : Int) : Value) :: (.int .i64 (m : Int) : Value) :: (.slice (some ⟨bl, ol, none⟩) M1 cl : Value) :: (.slice (some ⟨bf, of, none⟩) n cf : Value) :: l8 :: l9 :: l10 :: (.int .i64 0 : Value) :: l12 :: l13 :: l14 :: l15 :: l16 :: l17 :: l18 :: l19 :: l20 :: l21 :: l22 :: l23 :: l24 :: l25 :: l26 :: l27 :: l28 :: l29 :: l30 :: l31 :: l32 :: l33 :: l34 :: l35 :: l36 :: l37 :: l38 :: l39 :: l40 :: l41 :: l42 :: l43 :: l44 :: l45 :: l46 :: l47 :: l48 :: l49 :: l50 :: l51 :: l52 :: l53 :: l54 :: l55 :: l56 :: l57 :: l58 :: l59 :: l60 :: l61 :: l62 :: l63 :: l64 :: l65 :: l66 :: l67 :: l68 :: l69 :: l70 :: l71 :: l72 :: l73 :: l74 :: l75 :: l76 :: l77 :: l78 :: l79 :: l80 :: l81 :: l82 :: l83 :: l84 :: l85 :: l86 :: l87 :: l88 :: l89 :: l90 :: l91 :: l92 :: l93 :: l94 :: l95 :: l96 :: l97 :: l98 :: l99 :: l100 :: l101 :: l102 :: l103 :: l104 :: l105 :: l106 :: l107 :: l108 :: l109 :: l110 :: l111 :: l112 :: l113 :: l114 :: l115 :: l116 :: l117 :: l118 :: l119 :: l120 :: l121 :: l122 :: l123 :: l124 :: l125 :: l126 :: l127 :: l128 :: l129 :: l130 :: l131 :: l132 :: l133 :: l134 :: l135 :: l136 :: l137 :: l138 :: l139 :: l140 :: l141 :: l142 :: l143 :: l144 :: l145 :: l146 :: l147 :: l148 :: l149 :: l150 :: l151 :: l152 :: l153 :: l154 :: l155 :: l156 :: l157 :: l158 :: l159 :: l160 :: l161 :: l162 :: l163 :: l164 :: l165 :: l166 :: l167 :: l168 :: l169 :: l170 :: l171 :: l172 :: l173 :: l174 :: l175 :: l176 :: l177 :: l178 :: l179 :: l180 :: l181 :: l182 :: l183 :: l184 :: l185 :: l186 :: l187 :: l188 :: l189 :: l190 :: l191 :: l192 :: l193 :: l194 :: l195 :: l196 :: l197 :: l198 :: l199 :: l200 :: l201 :: l202 :: l203 :: l204 :: l205 :: l206 :: l207 :: l208 :: l209 :: l210 :: l211 :: l212 :: l213 :: l214 :: l215 :: l216 :: l217 :: l218 :: l219 :: l220 :: l221 :: l222 :: l223 :: l224 :: l225 :: l226 :: l227 :: l228 :: l229 :: l230 :: l231 :: l232 :: l233 :: l234 :: l235 :: l236 :: l237 :: l238 :: l239 :: l240 :: l241 :: l242 :: l243 :: l244 :: l245 :: l246 :: l247 :: l248 :: l249 :: l250 :: l251 :: l252 :: l253 :: l254 :: l255 :: l256 :: l257 :: l258 :: l259 :: l260 :: l261 :: l262 :: l263 :: l264 :: l265 :: l266 :: l267 :: l268 :: l269 :: l270 :: l271 :: l272 :: l273 :: l274 :: l275 :: l276 :: l277 :: l278 :: l279 :: l280 :: l281 :: l282 :: l283 :: l284 :: l285 :: l286 :: l287 :: l288 :: l289 :: l290 :: l291 :: l292 :: l293 :: l294 :: l295 :: l296 :: l297 :: l298 :: l299 :: l300 :: l301 :: l302 :: l303 :: l304 :: l305 :: l306 :: l307 :: l308 :: l309 :: l310 :: l311 :: l312 :: l313 :: l314 :: l315 :: l316 :: l317 :: l318 :: l319 :: l320 :: l321 :: l322 :: l323 :: l324 :: l325 :: l326 :: l327 :: l328 :: l329 :: l330 :: l331 :: l332 :: l333 :: l334 :: l335 :: l336 :: l337 :: l338 :: l339 :: l340 :: l341 :: l342 :: l343 :: l344 :: l345 :: l346 :: l347 :: l348 :: l349 :: l350 :: l351 :: l352 :: l353 :: l354 :: l355 :: l356 :: l357 :: l358 :: l359 :: l360 :: l361 :: l362 :: l363 :: l364 :: l365 :: l366 :: l367 :: l368 :: l369 :: l370 :: l371 :: l372 :: l373 :: l374 :: l375 :: l376 :: l377 :: l378 :: l379 :: l380 :: l381 :: l382 :: l383 :: l384 :: l385 :: l386 :: l387 :: [])), []⟩ wo := by
  conv => arg 2; arg 1; whnf
  have hM0 : 0 < M1 := by omega
  have i2 : 0 < n := by omega
  have i3 : (0 : Int) < (M1 : Int) := by omega
  go_loopw [11] (fun s wr => ∃ a : Nat, a ≤ n ∧ s = .int .i64 (a : Int) ∧ Hid (Below W3.heap.size W3 wr)) (fun s _ => n - (intOf s).toNat)
  case atStart => exact ⟨0, by omega, rfl, HR0.out⟩
  case round =>
    obtain ⟨a, han, rfl, HA⟩ := hrel
    by_cases hlt : a < n
    case pos =>
      obtain ⟨q0, q1⟩ := KQ3.out _ HA.out
      go_wp2_with fail
      refine (C3.out.cPla _ a HA.out hlt).mono ?_
      rintro e W4 ⟨Ap, cp, rfl, hp, hb⟩
      rw [hM1] at hp ⊢
      obtain ⟨bp, op, rfl, hcp⟩ := hp.some_ hM0
      have HB4 : Hid (Below W3.heap.size W3 W4) := HA.out.trans (hb.mono HA.out.size)
      have HCP : Hid (∀ W, Below W4.heap.size W4 W → ∀ (j : Nat) (y : Int), (placeF ⟨(n : Int), rs⟩ (a : Int))[j]? = some y → W.cell? ⟨bp, op + j, none⟩ = some (.int .i64 y)) := fun W hW j y hj => (hW.cell (block_lt_of_cell (hcp _ _ hj))).trans (hcp _ _ hj)
      have p0 := hcp _ _ (HX.out.place0 hlt)
      rw [Nat.add_zero] at p0
      obtain ⟨a1, ha1⟩ : ∃ a1 : Int, (a : Int) + 1 = a1 := ⟨_, rfl⟩
      rw [ha1] at p0
      have i6 : wrap64 ((m : Int) + 1) = (M1 : Int) := by unfold wrap64; omega
      have x1 : ((M1 : Int) != (M1 : Int)) = false := natEq_false rfl
      have x2 : (a1 != (a : Int) + 1) = false := natEq_false ha1.symm
      clear hcp hp hb q0 q1 HA ha1
      --@Z
      go_wp2
      --@A
      obtain ⟨wp, rfl⟩ : ∃ W, W = W4 := ⟨W4, rfl⟩
      go_loopw [137] (fun s wr => ∃ k : Nat, k ≤ M1 ∧ s = .int .i64 (k : Int) ∧ Hid (Below wp.heap.size wp wr)) (fun s _ => M1 - (intOf s).toNat)
      case atStart => exact ⟨0, by omega, rfl, Below.refl _ _⟩
      case round =>
        obtain ⟨k, hkM, rfl, HK⟩ := hrel
        have HBK : Hid (Below W3.heap.size W3 wr) := HB4.out.trans (HK.out.mono HB4.out.size)
        --@B
        by_cases hlk : k < M1
        case pos =>
          obtain ⟨q, hq, hp1, hp2, hp3⟩ := HX.out.place (k := k) hlt (by omega)
          obtain ⟨y, hy⟩ : ∃ y, (leadF ⟨(n : Int), rs⟩)[k]? = some y := ⟨_, List.getElem?_eq_getElem (by rw [HLen.out]; omega)⟩
          have hyt : y = (tableF n (rs.take k)).getD 0 0 := by
            have h := HX.out.lead (k := k) (by omega)
            rw [hy] at h; exact Option.some.inj h
          rw [← hyt] at hp3
          have ca := HCP.out _ HK.out _ _ hp1
          have cb := HCL.out _ HBK.out _ _ hy
          obtain ⟨pp, hpp⟩ : ∃ pp : Int, pp = (q : Int) + 1 := ⟨_, rfl⟩
          rw [← hpp] at ca hp3
          have t1 : ((pp == 1) != (y == (a : Int))) = false := by
            have : (pp == 1) = (y == (a : Int)) := by
              rw [Bool.eq_iff_iff]; simp only [beq_iff_eq]
              exact decide_eq_decide.1 hp3
            rw [this]; simp
          have t2 : (!((pp == 1) == (y == (a : Int)))) = false := t1
          have i7 : ¬ (pp < 1) := by omega
          have i8 : ¬ ((n : Int) < pp) := by omega
          clear hp1 hp2 hp3 hy hyt hpp
          have i9 : (k : Int) < (M1 : Int) := by omega
          --@C
          go_wp2
          --@D
          go_roundw
          case rel => exact ⟨k + 1, by omega, by go_num, HK.out⟩
          case measure => simp [intOf]; omega
        obtain rfl : M1 = k := by omega
        obtain ⟨q, hq, hp1, hp2, -⟩ := HX.out.place (k := m) hlt (Nat.le_refl _)
        rw [List.take_of_length_le (by rw [HLm.out]; exact Nat.le_refl _)] at hp2
        have ca := HCP.out _ HK.out _ _ hp1
        have cb := HCF.out _ HBK.out _ _ hp2
        have i7 : wrap64 ((q : Int) + 1 - 1) = (q : Int) := by unfold wrap64; omega
        have i8 : (q : Int) < (n : Int) := by omega
        have i9 : (m : Int) < (M1 : Int) := by omega
        have x3 : ((a : Int) != (a : Int)) = false := natEq_false rfl
        clear hp1 hp2
        --@E
        go_wp2
        --@E2
        go_roundw
        all_goals first | exact ⟨a + 1, by omega, by go_num, HBK.out⟩ | (simp [intOf]; try omega)
    obtain rfl : n = a := by omega
    clear HCL HCF HLen han
    go_wp2
    exact ⟨HA.out, _, _, _, _, _, _, _, _, _, _, _, _, _, _, _, _, _, _, _, _, _, _, _, _, _, _, _, _, _, _, _, _, _, _, _, _, _, _, _, _, _, _, _, _, _, _, _, _, _, _, _, _, _, _, _, _, _, _, _, _, _, _, rfl⟩
end Go.Proofs.Ythlkhmbndaecfaa
