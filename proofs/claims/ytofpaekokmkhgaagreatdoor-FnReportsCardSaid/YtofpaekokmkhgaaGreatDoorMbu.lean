/- Reports: what the functions return that the law compares, as one structure of contracts. -/
import Derived.Test.YtofpaekokmkhgaaGreatDoorMbk
import Derived.Test.YtofpaekokmkhgaaGreatDoorMbl
import Derived.Test.YtofpaekokmkhgaaGreatDoorMbn
import Derived.Test.YtofpaekokmkhgaaGreatDoorCv
import Derived.Test.YtofpaekokmkhgaaGreatDoorRln
import Derived.Test.YtofpaekokmkhgaaGreatDoorMac
namespace Go.Proofs.YtofpaekokmkhgaaGreatDoor
open Go.ChangeShapes Go.WideShapes Go.ChangeAt Go.RowKit

/-- The reports of one world and of all later ones. -/
structure RpC (wq : World) (m : Nat) (A : Option Addr) (c N : Nat) (vp vr vg vi vm : Value) (SL OL : List Int) (TR FE : Int) (PN BR : Nat) (CV : Int) (T1 T2 T3 T4 T5 T6 T7 T8 T9 : List UInt8) : Prop where
  len : T1.length ≤ 200 ∧ T2.length ≤ 200 ∧ T3.length ≤ 200 ∧ T4.length ≤ 200 ∧ T5.length ≤ 200 ∧ T6.length ≤ 200 ∧ T7.length ≤ 200 ∧ T8.length ≤ 200 ∧ T9.length ≤ 200
  cScore : ∀ W, Below wq.heap.size wq W → Calls Tryz.prog 9 #[.agg #[.int .i64 (m : Int), .slice A m c]] W fun e w' => e = .returned (.string (((((⟨#[115, 99, 111, 114, 101, 115, 32]⟩ ++ ⟨T1.toArray⟩) ++ ⟨#[32, 116, 114, 105, 97, 110, 103, 108, 101, 115, 32]⟩) ++ ⟨T2.toArray⟩) ++ ⟨#[32, 112, 97, 114, 116, 115, 32]⟩) ++ ⟨T3.toArray⟩)) ∧ Below W.heap.size W w'
  cScores : ∀ W, Below wq.heap.size wq W → Calls Tryz.prog 11 #[.agg #[.int .i64 (m : Int), .slice A m c]] W fun e w' => ∃ v', e = .returned v' ∧ InI w' v' SL ∧ Below W.heap.size W w'
  cF1 : ∀ W v', InI W v' SL → Below wq.heap.size wq W → Calls Tryz.prog 10 #[v'] W fun e w' => e = .returned (.string ⟨T1.toArray⟩) ∧ Below W.heap.size W w'
  cTri : ∀ W, Below wq.heap.size wq W → Calls Tryz.prog 13 #[.agg #[.int .i64 (m : Int), .slice A m c]] W fun e w' => e = .returned (.int .i64 TR) ∧ Below W.heap.size W w'
  cF2 : ∀ W, Below wq.heap.size wq W → Calls Tryz.prog 12 #[.int .i64 TR] W fun e w' => e = .returned (.string ⟨T2.toArray⟩) ∧ Below W.heap.size W w'
  cParts : ∀ W, Below wq.heap.size wq W → Calls Tryz.prog 14 #[.agg #[.int .i64 (m : Int), .slice A m c]] W fun e w' => ∃ B d, e = .returned (.slice B PN d) ∧ Below W.heap.size W w'
  cF3 : ∀ W, Below wq.heap.size wq W → Calls Tryz.prog 12 #[.int .i64 (PN : Int)] W fun e w' => e = .returned (.string ⟨T3.toArray⟩) ∧ Below W.heap.size W w'
  cOrder : ∀ W, Below wq.heap.size wq W → Calls Tryz.prog 15 #[.agg #[.int .i64 (m : Int), .slice A m c]] W fun e w' => e = .returned (.string ((⟨T4.toArray⟩ ++ ⟨#[32]⟩) ++ ⟨T5.toArray⟩)) ∧ Below W.heap.size W w'
  cBest : ∀ W, Below wq.heap.size wq W → Calls Tryz.prog 16 #[.agg #[.int .i64 (m : Int), .slice A m c]] W fun e w' => ∃ v', e = .returned v' ∧ InI w' v' OL ∧ Below W.heap.size W w'
  cF4 : ∀ W v', InI W v' OL → Below wq.heap.size wq W → Calls Tryz.prog 10 #[v'] W fun e w' => e = .returned (.string ⟨T4.toArray⟩) ∧ Below W.heap.size W w'
  cFew : ∀ W, Below wq.heap.size wq W → Calls Tryz.prog 17 #[.agg #[.int .i64 (m : Int), .slice A m c]] W fun e w' => e = .returned (.int .i64 FE) ∧ Below W.heap.size W w'
  cF5 : ∀ W, Below wq.heap.size wq W → Calls Tryz.prog 12 #[.int .i64 FE] W fun e w' => e = .returned (.string ⟨T5.toArray⟩) ∧ Below W.heap.size W w'
  cPlan : ∀ W, Below wq.heap.size wq W → Calls Tryz.prog 18 #[.int .i64 (N : Int), vp] W fun e w' => e = .returned (.string (((⟨#[98, 114, 101, 97, 107, 115, 32]⟩ ++ ⟨T6.toArray⟩) ++ ⟨#[32, 99, 97, 114, 114, 121, 32]⟩) ++ ⟨T7.toArray⟩)) ∧ Below W.heap.size W w'
  cBreaks : ∀ W, Below wq.heap.size wq W → Calls Tryz.prog 19 #[.int .i64 (N : Int), vp] W fun e w' => e = .returned (.int .i64 (BR : Int)) ∧ Below W.heap.size W w'
  cF6 : ∀ W, Below wq.heap.size wq W → Calls Tryz.prog 12 #[.int .i64 (BR : Int)] W fun e w' => e = .returned (.string ⟨T6.toArray⟩) ∧ Below W.heap.size W w'
  cCarry : ∀ W, Below wq.heap.size wq W → Calls Tryz.prog 20 #[.int .i64 (N : Int), vp] W fun e w' => e = .returned (.int .i64 CV) ∧ Below W.heap.size W w'
  cF7 : ∀ W, Below wq.heap.size wq W → Calls Tryz.prog 12 #[.int .i64 CV] W fun e w' => e = .returned (.string ⟨T7.toArray⟩) ∧ Below W.heap.size W w'
  cRace : ∀ W, Below wq.heap.size wq W → Calls Tryz.prog 21 #[vr, vg] W fun e w' => e = .returned (.string (((⟨#[105, 110, 32]⟩ ++ ⟨T8.toArray⟩) ++ ⟨#[32, 109, 97, 103, 105, 99, 32]⟩) ++ ⟨T9.toArray⟩)) ∧ Below W.heap.size W w'
  cF8 : ∀ W, Below wq.heap.size wq W → Calls Tryz.prog 10 #[vi] W fun e w' => e = .returned (.string ⟨T8.toArray⟩) ∧ Below W.heap.size W w'
  cF9 : ∀ W, Below wq.heap.size wq W → Calls Tryz.prog 10 #[vm] W fun e w' => e = .returned (.string ⟨T9.toArray⟩) ∧ Below W.heap.size W w'
  cLit : ∀ W, Below wq.heap.size wq W → Calls Tryz.prog 10 #[.slice (some ⟨W.heap.size, 0, none⟩) 2 2] (W.alloc (.cells #[.int .i64 1, .int .i64 (-2)] 3)) fun e w' => e = .returned (.string ⟨#[49, 44, 45, 50]⟩) ∧ Below W.heap.size W w'
theorem fmt12 : fmtF [1, -2] = [49, 44, 45, 50] := by decide +kernel
theorem str_eq {a b : List UInt8} {c : ByteArray} (h : a = b) (h2 : c = ⟨b.toArray⟩) : Ending.returned (Value.string ⟨a.toArray⟩) = .returned (.string c) := by rw [h, h2]
theorem rpC_of {wq : World} {m : Nat} {A : Option Addr} {c N : Nat} {vp vr vg vi vm : Value} {xs : List Int} {P : List (List Int)} {ws : List Int} {gs : List (List Int)}
    (hl : xs.length = m) (hok : tourB ⟨(m : Int), xs⟩ = true) (ht : InI wq (.slice A m c) xs) (hpl : planB (N : Int) P = true) (hp : InS wq vp P) (hr : raceB ws gs = true) (hr5 : ws.length ≤ 5) (hvr : InI wq vr ws) (hvg : InS wq vg gs)
    (hvi : InI wq vi (memL (stillF ws gs))) (hvm : InI wq vm (magsF ws gs)) (hT : tabP wq) :
    ∃ SL OL TR FE PN BR CV T1 T2 T3 T4 T5 T6 T7 T8 T9, RpC wq m A c N vp vr vg vi vm SL OL TR FE PN BR CV T1 T2 T3 T4 T5 T6 T7 T8 T9 := by
  obtain ⟨t1, t2, t3, _, _⟩ := tourB_t hok
  simp only at t1 t2 t3
  have hn8 : xs.length ≤ 8 := by omega
  have hIT : InT wq (.agg #[.int .i64 (m : Int), .slice A m c]) ⟨(m : Int), xs⟩ := ⟨_, rfl, ht⟩
  have hB : ∀ W, Below wq.heap.size wq W → tabP W := fun W h => hT.below h (Nat.le_refl _)
  have htb := triF_bd (x := ⟨(m : Int), xs⟩) hn8
  have hpb := partN_le hok
  have hfe := orderF_bd (x := ⟨(m : Int), xs⟩) hn8
  have hR := raceB_t hr
  have hn6 := hR.n6
  have hbk := planB_bulk hpl
  have hcap := planB_cap hpl
  have hbs := brkSum_le P hcap.2.2 N
  have hcv := carV_cap hpl
  have hgs : gs.length ≤ 1048576 := by have := hR.m15; omega
  have g8 := fmt_len8 (memL_wf (stillF ws gs)) (by rw [memL_len]; exact cntL_le _)
  have g9 := fmt_len8 (magsF_wf hR) (by rw [magsF_len]; omega)
  have hl2 := Lib.itoa_length_le (triF ⟨(m : Int), xs⟩) (by omega) (by omega)
  have hl3 := Lib.itoa_length_le ((partN ⟨(m : Int), xs⟩ : Nat) : Int) (by omega) (by omega)
  have hl5 := Lib.itoa_length_le (orderF ⟨(m : Int), xs⟩) (by omega) (by omega)
  have hl6 := Lib.itoa_length_le ((brkSum P N : Nat) : Int) (by omega) (by omega)
  have hl7 := Lib.itoa_length_le (carV N P) (by omega) (by omega)
  refine ⟨scoresL ⟨(m : Int), xs⟩, orderL ⟨(m : Int), xs⟩, triF ⟨(m : Int), xs⟩, orderF ⟨(m : Int), xs⟩, partN ⟨(m : Int), xs⟩, brkSum P N, carV N P,
    fmtF (scoresL ⟨(m : Int), xs⟩), Lib.itoa (triF ⟨(m : Int), xs⟩), Lib.itoa ((partN ⟨(m : Int), xs⟩ : Nat) : Int), fmtF (orderL ⟨(m : Int), xs⟩), Lib.itoa (orderF ⟨(m : Int), xs⟩), Lib.itoa ((brkSum P N : Nat) : Int), Lib.itoa (carV N P), fmtF (memL (stillF ws gs)), fmtF (magsF ws gs),
    ⟨⟨scores_fmt hn8, by omega, by omega, order_fmt _, by omega, by omega, by omega, g8, g9⟩, ?_, ?_, ?_, ?_, ?_, ?_, ?_, ?_, ?_, ?_, ?_, ?_, ?_, ?_, ?_, ?_, ?_, ?_, ?_, ?_, ?_⟩⟩
  · intro W hW
    refine (implScoreLine_any _ _ W (hIT.below hW) (hB W hW)).mono fun e w' ⟨he, hb⟩ => ⟨he.trans (str_eq (scoreText_t hok) (scoreCat _ _ _)), hb⟩
  · intro W hW
    exact (implScoresOf_any _ _ W (hIT.below hW) hok).mono fun e w' ⟨v', he, hf, hb⟩ => ⟨v', he, hf.in_, hb⟩
  · intro W v' hi hW
    exact implFormatNumbers_any v' _ W hi (by rw [scoresL_len]; show xs.length ≤ _; omega) (scoresL_wf _) (hB W hW)
  · intro W hW
    exact implTriangles_any _ _ W (hIT.below hW) hok
  · intro W hW
    exact implFormatInt_any _ W (by omega) (by omega) (hB W hW)
  · intro W hW
    refine (implStrongParts_any _ _ W (hIT.below hW) hok).mono fun e w' ⟨v', L, he, hf, hl, hb⟩ => ?_
    obtain ⟨B, d, rfl, -, -⟩ := hf.form
    exact ⟨B, d, by rw [he, hl], hb⟩
  · intro W hW
    exact implFormatInt_any _ W (by omega) (by omega) (hB W hW)
  · intro W hW
    refine (implOrderLine_any _ _ W (hIT.below hW) (hB W hW)).mono fun e w' ⟨he, hb⟩ => ⟨he.trans (str_eq (orderText_t hok) (orderCat _ _)), hb⟩
  · intro W hW
    exact (implBestOrder_any _ _ W (hIT.below hW) hok).mono fun e w' ⟨v', he, hf, hb⟩ => ⟨v', he, hf.in_, hb⟩
  · intro W v' hi hW
    exact implFormatNumbers_any v' _ W hi (by have := orderL_len ⟨(m : Int), xs⟩; omega) (orderL_wf _) (hB W hW)
  · intro W hW
    exact implFewest_any _ _ W (hIT.below hW) hok
  · intro W hW
    exact implFormatInt_any _ W (by omega) (by omega) (hB W hW)
  · intro W hW
    refine (implPlanLine_any _ vp P W (hp.below hW) (by omega) (hB W hW)).mono fun e w' ⟨he, hb⟩ => ⟨he.trans (str_eq (planText_t hpl) (planText_str _ _)), hb⟩
  · intro W hW
    exact implCountBreaks_any vp P N W (hp.below hW) (by omega) hpl
  · intro W hW
    exact implFormatInt_any _ W (by omega) (by omega) (hB W hW)
  · intro W hW
    exact implCarryAll_any vp P N W (hp.below hW) (by omega) hpl
  · intro W hW
    exact implFormatInt_any _ W (by omega) (by omega) (hB W hW)
  · intro W hW
    refine (implRaceLine_any vr vg ws gs W (hvr.below hW) (hvg.below hW) (by omega) hgs (hB W hW)).mono fun e w' ⟨he, hb⟩ => ⟨he.trans (str_eq (raceText_t hr) (raceCat _ _)), hb⟩
  · intro W hW
    exact implFormatNumbers_any vi _ W (hvi.below hW) (by rw [memL_len]; have := cntL_le (stillF ws gs); omega) (memL_wf _) (hB W hW)
  · intro W hW
    exact implFormatNumbers_any vm _ W (hvm.below hW) (by rw [magsF_len]; omega) (magsF_wf hR) (hB W hW)
  · intro W hW
    have ho : Fr (W.alloc (.cells #[.int .i64 1, .int .i64 (-2)] 3)) W.heap.size (W.alloc (.cells #[.int .i64 1, .int .i64 (-2)] 3)).heap.size (.slice (some ⟨W.heap.size, 0, none⟩) 2 2) [1, -2] :=
      Fr.of_own (xs := [1, -2]) (World.ownsRow_lit (base := W.heap.size) (e := 3) (size := 1) W #[.int .i64 1, .int .i64 (-2)] 2 (Nat.le_refl _) (by unfold maxLen; omega) rfl)
    have hb : Below W.heap.size W (W.alloc (.cells #[.int .i64 1, .int .i64 (-2)] 3)) := (Below.refl _ W).alloc (Nat.le_refl _) _
    refine (implFormatNumbers_any _ [1, -2] _ ho.in_ (by decide) (by intro x hx; simp at hx; rcases hx with rfl | rfl <;> decide) (hB _ (hW.trans (hb.mono hW.size)))).mono fun e w' ⟨he, hb'⟩ => ⟨?_, hb.trans (hb'.mono hb.size)⟩
    rw [he, fmt12]
end Go.Proofs.YtofpaekokmkhgaaGreatDoor
namespace Go.Proofs.YtofpaekokmkhgaaGreatDoor
open Go.ChangeShapes Go.WideShapes Go.ChangeAt Go.RowKit

set_option maxRecDepth 100000 in
theorem openB {H : Type} {enc : TypeId × Value → H} {W : World} {base : Nat} {v : Value} {d : DataW H} {p : List MemPlace}
    (hok : Value.okWide Tryz.prog W .any base 22 v) (h : DataW.Trod enc Tryz.prog W 0 (fun _ => true) true 22 v d p) : ∃ n : Nat, InB W v n := by
  obtain ⟨a0, len0, cap0, rfl⟩ := okWide_slice Tryz.underlying22 hok
  obtain ⟨fuel, hf⟩ := h
  rcases open_ints Tryz.underlying22 Tryz.underlying5 (by kernel_rfl) hf with ⟨hcs, _⟩ | ⟨x, l, c, zs, hcs, _, hl, hm, hz, _, hcell, hwz⟩
  · simp [Value.cells] at hcs
    obtain ⟨rfl, rfl, rfl⟩ := hcs
    exact ⟨0, none, 0, rfl, Nat.le_refl _, by unfold maxLen; omega, .inl rfl⟩
  · simp [Value.cells] at hcs
    obtain ⟨rfl, rfl, rfl⟩ := hcs
    by_cases h0 : 0 < len0
    · have hz' : zs.length = cap0 := by simpa using hz
      obtain ⟨b, off, rfl, hc'⟩ := ints_at hcell (by omega)
      refine ⟨len0, _, cap0, rfl, hl, hm, .inr ⟨b, off, rfl, fun j hj => ?_⟩⟩
      have hj' : j < zs.length := by omega
      have hw := hwz (zs.getD j 0) (by rw [List.getD_eq_getElem?_getD, List.getElem?_eq_getElem hj']; exact List.getElem_mem hj')
      have hr : 0 ≤ zs.getD j 0 ∧ zs.getD j 0 ≤ 255 := by simpa [Lit.wf, IntKind.min, IntKind.max, IntKind.signed, IntKind.bits] using hw
      exact ⟨_, hr.1, hr.2, hc' j hj'⟩
    · exact ⟨len0, some x, cap0, rfl, hl, hm, .inl (by omega)⟩
end Go.Proofs.YtofpaekokmkhgaaGreatDoor
