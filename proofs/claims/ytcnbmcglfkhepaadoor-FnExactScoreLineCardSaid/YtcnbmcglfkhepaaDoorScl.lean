/- The line of scores: both packages' contracts. -/
import Derived.Test.YtcnbmcglfkhepaaDoorPrw
import Derived.Test.YtcnbmcglfkhepaaDoorFz
import Derived.Test.YtcnbmcglfkhepaaDoorBox
namespace Go.Proofs.YtcnbmcglfkhepaaDoor
open Go.ChangeShapes Go.WideShapes Go.ChangeAt Go.RowKit

def scW : List UInt8 := [115, 99, 111, 114, 101, 115]
def trW : List UInt8 := [116, 114, 105, 97, 110, 103, 108, 101, 115]
def paW : List UInt8 := [112, 97, 114, 116, 115]
def scoreTextT (a b c : List UInt8) : List UInt8 := Lib.join [scW, a, trW, b, paW, c] [32]
def scoreText (x : TourV) : List UInt8 := if tourB x then scoreTextT (fmtF (scoresL x)) (Lib.itoa (triF x)) (Lib.itoa (partN x : Nat)) else [110, 111, 110, 101]
theorem scoreText_t {x : TourV} (h : tourB x = true) : scoreText x = scoreTextT (fmtF (scoresL x)) (Lib.itoa (triF x)) (Lib.itoa (partN x : Nat)) := by rw [scoreText, if_pos h]
theorem scoreText_f {x : TourV} (h : tourB x = false) : scoreText x = [110, 111, 110, 101] := by rw [scoreText, h]; rfl
theorem join6 (a b c d e f : List UInt8) : Lib.join [a, b, c, d, e, f] [32] = a ++ [32] ++ b ++ [32] ++ c ++ [32] ++ d ++ [32] ++ e ++ [32] ++ f := by
  simp [Lib.join_cons, Lib.joinTail, List.append_assoc]
theorem scoreCat (a b c : List UInt8) : (((((⟨#[115, 99, 111, 114, 101, 115, 32]⟩ : ByteArray) ++ ⟨a.toArray⟩) ++ ⟨#[32, 116, 114, 105, 97, 110, 103, 108, 101, 115, 32]⟩) ++ ⟨b.toArray⟩) ++ ⟨#[32, 112, 97, 114, 116, 115, 32]⟩) ++ ⟨c.toArray⟩ = ⟨(scoreTextT a b c).toArray⟩ := by
  rw [show (⟨#[115, 99, 111, 114, 101, 115, 32]⟩ : ByteArray) = ⟨([115, 99, 111, 114, 101, 115, 32] : List UInt8).toArray⟩ from rfl, show (⟨#[32, 116, 114, 105, 97, 110, 103, 108, 101, 115, 32]⟩ : ByteArray) = ⟨([32, 116, 114, 105, 97, 110, 103, 108, 101, 115, 32] : List UInt8).toArray⟩ from rfl, show (⟨#[32, 112, 97, 114, 116, 115, 32]⟩ : ByteArray) = ⟨([32, 112, 97, 114, 116, 115, 32] : List UInt8).toArray⟩ from rfl, bcat, bcat, bcat, bcat, bcat, scoreTextT, join6]
  simp [scW, trW, paW]
theorem scoresL_wf (x : TourV) : wfI (scoresL x) := by
  intro y hy
  have := scoresL_bd y hy
  omega
theorem scores_fmt {x : TourV} (h : x.wins.length ≤ 8) : (fmtF (scoresL x)).length ≤ 200 := by
  have hw := scoresL_wf x
  have hl := scoresL_len x
  unfold fmtF
  split
  · simp
  · have := fmt_bound hw; omega
theorem triF_bd {x : TourV} (h : x.wins.length ≤ 8) : -224 ≤ triF x ∧ triF x ≤ 56 := by
  have := triT_bd h x.wins.length
  unfold triF
  omega

theorem join6_any (w : World) (T1 T2 T3 : List UInt8) (h1 : T1.length ≤ 200) (h2 : T2.length ≤ 200) (h3 : T3.length ≤ 200) :
    Calls Tryd.prog 18 #[.slice (some ⟨w.heap.size, 0, none⟩) 6 6, .string ⟨#[32]⟩] (w.alloc (.cells #[.string ⟨#[115, 99, 111, 114, 101, 115]⟩, .string ⟨T1.toArray⟩, .string ⟨#[116, 114, 105, 97, 110, 103, 108, 101, 115]⟩, .string ⟨T2.toArray⟩, .string ⟨#[112, 97, 114, 116, 115]⟩, .string ⟨T3.toArray⟩] 9)) fun e w' => e = .returned (.string ⟨(scoreTextT T1 T2 T3).toArray⟩) ∧ Below w.heap.size w w' := by
  have ho := World.ownsRow_lit (base := w.heap.size) (e := 9) (size := 1) w #[.string ⟨scW.toArray⟩, .string ⟨T1.toArray⟩, .string ⟨trW.toArray⟩, .string ⟨T2.toArray⟩, .string ⟨paW.toArray⟩, .string ⟨T3.toArray⟩] 6 (Nat.le_refl _) (by unfold maxLen; omega) rfl
  have h := implJoin_any _ w.heap.size 6 [scW, T1, trW, T2, paW, T3] [32] _ ho (by omega) (by omega) (by rw [join6]; simp [scW, trW, paW]; omega)
  exact h.mono fun e w' ⟨he, hb⟩ => ⟨he, ((Below.refl _ w).alloc (Nat.le_refl _) _).trans (hb.mono (by simp))⟩
set_option maxHeartbeats 4000000 in
set_option maxRecDepth 100000 in
theorem implScoreLine_any (v : Value) (x : TourV) (w : World) (hs : InT w v x) (ht : tabP w) :
    Calls Tryd.prog 7 #[v] w fun e w' => e = .returned (.string ⟨(scoreText x).toArray⟩) ∧ Below w.heap.size w w' := by
  have HIT := Lib.hid hs
  have HT := Lib.hid ht
  obtain ⟨u, rfl, A, c, rfl, hc, hm, hsl⟩ := hs
  have HTO : Hid (∀ W, Below w.heap.size w W → Calls Tryd.prog 17 #[.agg #[.int .i64 x.size, .slice A x.wins.length c]] W fun e w' => e = .returned (.bool (tourB x)) ∧ Below W.heap.size W w') := fun W hW => implTourOk_any _ x W (HIT.out.below hW)
  have HBX : Hid (Bx (w.alloc (.cells #[.int .i64 x.size, .slice A x.wins.length c] 27)) w.heap.size (.int .i64 x.size) (.slice A x.wins.length c) ∧ Below w.heap.size w (w.alloc (.cells #[.int .i64 x.size, .slice A x.wins.length c] 27)) ∧ w.heap.size < (w.alloc (.cells #[.int .i64 x.size, .slice A x.wins.length c] 27)).heap.size) := ⟨⟨by simp, by simp, by simp⟩, (Below.refl _ w).alloc (Nat.le_refl _) _, by simp⟩
  clear hsl
  cases h1 : tourB x
  case false =>
    have HX : Hid (scoreText x = [110, 111, 110, 101]) := scoreText_f h1
    go_enter Tryd.func7, Tryd.ntmps7
    go_wp2_with (go_at_call 17; refine (HTO.out _ HBX.out.2.1).mono ?_; rintro e w1 ⟨rfl, hb⟩; rw [h1]; have HB : Hid (Below w.heap.size w w1) := HBX.out.2.1.trans (hb.mono HBX.out.2.1.size); clear hb)
    go_ret
    exact ⟨by rw [HX.out]; rfl, HB.out⟩
  obtain ⟨t1, t2, t3, _, _⟩ := tourB_t h1
  have hn8 : x.wins.length ≤ 8 := by omega
  have HX := Lib.hid (scoreText_t h1)
  have HOK := Lib.hid h1
  have HWF := Lib.hid (scoresL_wf x)
  have HSL : Hid ((scoresL x).length ≤ 8) := by show _ ≤ _; rw [scoresL_len]; exact hn8
  have g1 := scores_fmt hn8
  have htb := triF_bd hn8
  have hpb := partN_le h1
  have HSC : Hid (∀ W, Below w.heap.size w W → Calls Tryd.prog 20 #[.agg #[.int .i64 x.size, .slice A x.wins.length c]] W fun e w' => ∃ v', e = .returned v' ∧ Fr w' W.heap.size w'.heap.size v' (scoresL x) ∧ Below W.heap.size W w') := fun W hW => implScoresOf_any _ x W (HIT.out.below hW) HOK.out
  have HTR : Hid (∀ W, Below w.heap.size w W → Calls Tryd.prog 22 #[.agg #[.int .i64 x.size, .slice A x.wins.length c]] W fun e w' => e = .returned (.int .i64 (triF x)) ∧ Below W.heap.size W w') := fun W hW => implTriangles_any _ x W (HIT.out.below hW) HOK.out
  have HPA : Hid (∀ W, Below w.heap.size w W → Calls Tryd.prog 23 #[.agg #[.int .i64 x.size, .slice A x.wins.length c]] W fun e w' => ∃ v' L, e = .returned v' ∧ Fr w' W.heap.size w'.heap.size v' L ∧ L.length = partN x ∧ Below W.heap.size W w') := fun W hW => implStrongParts_any _ x W (HIT.out.below hW) HOK.out
  obtain ⟨P, HP⟩ : ∃ P : Nat, Hid (partN x = P) := ⟨_, rfl⟩
  obtain ⟨TR, HTRe⟩ : ∃ TR : Int, Hid (triF x = TR) := ⟨_, rfl⟩
  rw [HP.out] at hpb
  rw [HP.out, HTRe.out] at HX
  rw [HTRe.out] at htb HTR
  have hl2 := Lib.itoa_length_le TR (by omega) (by omega)
  have hl3 := Lib.itoa_length_le (P : Int) (by omega) (by omega)
  have HFA : Hid (∀ W, Below w.heap.size w W → Calls Tryd.prog 21 #[.int .i64 TR] W fun e w' => e = .returned (.string ⟨(Lib.itoa TR).toArray⟩) ∧ Below W.heap.size W w') := fun W hW => implFormatInt_any TR W (by omega) (by omega) (HT.out.below hW (Nat.le_refl _))
  have HFB : Hid (∀ W, Below w.heap.size w W → Calls Tryd.prog 21 #[.int .i64 (P : Int)] W fun e w' => e = .returned (.string ⟨(Lib.itoa (P : Int)).toArray⟩) ∧ Below W.heap.size W w') := fun W hW => implFormatInt_any (P : Int) W (by omega) (by omega) (HT.out.below hW (Nat.le_refl _))
  obtain ⟨T1, HT1⟩ : ∃ T1, Hid (fmtF (scoresL x) = T1) := ⟨_, rfl⟩
  obtain ⟨T2, HT2⟩ : ∃ T2, Hid (Lib.itoa TR = T2) := ⟨_, rfl⟩
  obtain ⟨T3, HT3⟩ : ∃ T3, Hid (Lib.itoa (P : Int) = T3) := ⟨_, rfl⟩
  rw [HT1.out] at HX g1
  rw [HT2.out] at HX hl2 HFA
  rw [HT3.out] at HX hl3 HFB
  have HCAT := Lib.hid (scoreCat T1 T2 T3)
  have HGG : Hid (T1.length ≤ 200 ∧ T2.length ≤ 200 ∧ T3.length ≤ 200) := ⟨g1, by omega, by omega⟩
  clear h1 t1 t2 t3 htb
  go_enter Tryd.func7, Tryd.ntmps7
  go_wp2_with (go_at_call 17; refine (HTO.out _ HBX.out.2.1).mono ?_; rintro e w1 ⟨rfl, hb⟩; rw [HOK.out]; have H1 : Hid (Bx w1 w.heap.size (.int .i64 x.size) (.slice A x.wins.length c) ∧ Below w.heap.size w w1) := ⟨HBX.out.1.below hb, HBX.out.2.1.trans (hb.mono (Nat.le_of_lt HBX.out.2.2))⟩; clear hb)
  obtain ⟨q0, q1, -⟩ := id H1.out.1
  have H1B : Hid (Below w.heap.size w w1.drew) := below_drewL H1.out.2
  have H1X : Hid (Bx w1.drew w.heap.size (.int .i64 x.size) (.slice A x.wins.length c)) := H1.out.1.drew
  go_region_held3 (fun W => W.cell? ⟨w.heap.size, 0, none⟩ = some (.int .i64 x.size) ∧ W.cell? ⟨w.heap.size, 1, none⟩ = some (.slice A x.wins.length c)) (first | exact ⟨q0, q1⟩ | exact ⟨H8.out.1.1, H8.out.1.2.1⟩ | exact ⟨(H7.out.1.below ((Below.refl _ w7).alloc (Nat.le_refl _) _)).1, (H7.out.1.below ((Below.refl _ w7).alloc (Nat.le_refl _) _)).2.1⟩ | exact ⟨H7.out.1.1, H7.out.1.2.1⟩ | exact ⟨H6.out.1.1, H6.out.1.2.1⟩ | exact ⟨H5.out.1.1, H5.out.1.2.1⟩ | exact ⟨H4.out.1.1, H4.out.1.2.1⟩ | exact ⟨H3.out.1.1, H3.out.1.2.1⟩ | exact ⟨H2.out.1.1, H2.out.1.2.1⟩) (first
    | (go_at_call 20; refine (HSC.out _ H1B.out).mono ?_; rintro e w2 ⟨v2, rfl, hf, hb⟩; have H2 : Hid (Bx w2 w.heap.size (.int .i64 x.size) (.slice A x.wins.length c) ∧ Below w.heap.size w w2) := (show _ ∧ _ from ⟨H1X.out.below hb, H1B.out.trans (hb.mono H1B.out.size)⟩); have H2I : Hid (InI w2 v2 (scoresL x)) := hf.in_; clear hb hf)
    | (go_at_call 19; refine (implFormatNumbers_any v2 (scoresL x) _ H2I.out (by have := HSL.out; omega) HWF.out (HT.out.below H2.out.2 (Nat.le_refl _))).mono ?_; rintro e w3 ⟨rfl, hb⟩; rw [HT1.out]; have H3 : Hid (Bx w3 w.heap.size (.int .i64 x.size) (.slice A x.wins.length c) ∧ Below w.heap.size w w3) := (show _ ∧ _ from ⟨H2.out.1.below hb, H2.out.2.trans (hb.mono H2.out.2.size)⟩); clear hb)
    | (go_at_call 22; refine (HTR.out _ H3.out.2).mono ?_; rintro e w4 ⟨rfl, hb⟩; have H4 : Hid (Bx w4 w.heap.size (.int .i64 x.size) (.slice A x.wins.length c) ∧ Below w.heap.size w w4) := (show _ ∧ _ from ⟨H3.out.1.below hb, H3.out.2.trans (hb.mono H3.out.2.size)⟩); clear hb)
    | (go_at_call 21; have h_ := H4.out; clear h_; (with_reducible refine (HFA.out _ H4.out.2).mono ?_); rintro e w5 ⟨rfl, hb⟩; have H5 : Hid (Bx w5 w.heap.size (.int .i64 x.size) (.slice A x.wins.length c) ∧ Below w.heap.size w w5) := (show _ ∧ _ from ⟨H4.out.1.below hb, H4.out.2.trans (hb.mono H4.out.2.size)⟩); clear hb)
    | (go_at_call 23; refine (HPA.out _ H5.out.2).mono ?_; rintro e w6 ⟨v6, L6, rfl, hf, hl6, hb⟩; have H6 : Hid (Bx w6 w.heap.size (.int .i64 x.size) (.slice A x.wins.length c) ∧ Below w.heap.size w w6) := (show _ ∧ _ from ⟨H5.out.1.below hb, H5.out.2.trans (hb.mono H5.out.2.size)⟩); obtain ⟨A6, c6, rfl, -⟩ := hf.form; rw [hl6, HP.out]; clear hb hf hl6)
    | (go_at_call 21; have h_ := H6.out; clear h_; (with_reducible refine (HFB.out _ H6.out.2).mono ?_); rintro e w7 ⟨rfl, hb⟩; have H7 : Hid (Bx w7 w.heap.size (.int .i64 x.size) (.slice A x.wins.length c) ∧ Below w.heap.size w w7) := (show _ ∧ _ from ⟨H6.out.1.below hb, H6.out.2.trans (hb.mono H6.out.2.size)⟩); clear hb)
    | (go_at_call 18; refine (join6_any w7 T1 T2 T3 HGG.out.1 HGG.out.2.1 HGG.out.2.2).mono ?_; rintro e w8 ⟨rfl, hb⟩; have H8 : Hid (Bx w8 w.heap.size (.int .i64 x.size) (.slice A x.wins.length c) ∧ Below w.heap.size w w8) := (show _ ∧ _ from ⟨H7.out.1.below hb, H7.out.2.trans (hb.mono H7.out.2.size)⟩); clear hb))
  go_wp2
  go_ret
  exact ⟨by rw [HX.out]; rfl, H8.out.2⟩

set_option maxHeartbeats 4000000 in
set_option maxRecDepth 100000 in
theorem specScoreLine_any (v : Value) (x : TourV) (w : World) (hs : InT w v x) :
    Calls Tryd.prog 5 #[v] w fun e w' => e = .returned (.string ⟨(scoreText x).toArray⟩) ∧ Below w.heap.size w w' := by
  have HIT := Lib.hid hs
  skip
  obtain ⟨u, rfl, A, c, rfl, hc, hm, hsl⟩ := hs
  have HTO : Hid (∀ W, Below w.heap.size w W → Calls Tryd.prog 10 #[.agg #[.int .i64 x.size, .slice A x.wins.length c]] W fun e w' => e = .returned (.bool (tourB x)) ∧ Below W.heap.size W w') := fun W hW => specTourOk_any _ x W (HIT.out.below hW)
  have HBX : Hid (Bx (w.alloc (.cells #[.int .i64 x.size, .slice A x.wins.length c] 27)) w.heap.size (.int .i64 x.size) (.slice A x.wins.length c) ∧ Below w.heap.size w (w.alloc (.cells #[.int .i64 x.size, .slice A x.wins.length c] 27)) ∧ w.heap.size < (w.alloc (.cells #[.int .i64 x.size, .slice A x.wins.length c] 27)).heap.size) := ⟨⟨by simp, by simp, by simp⟩, (Below.refl _ w).alloc (Nat.le_refl _) _, by simp⟩
  clear hsl
  cases h1 : tourB x
  case false =>
    have HX : Hid (scoreText x = [110, 111, 110, 101]) := scoreText_f h1
    go_enter Tryd.func5, Tryd.ntmps5
    go_wp2_with (go_at_call 10; refine (HTO.out _ HBX.out.2.1).mono ?_; rintro e w1 ⟨rfl, hb⟩; rw [h1]; have HB : Hid (Below w.heap.size w w1) := HBX.out.2.1.trans (hb.mono HBX.out.2.1.size); clear hb)
    go_ret
    exact ⟨by rw [HX.out]; rfl, HB.out⟩
  obtain ⟨t1, t2, t3, _, _⟩ := tourB_t h1
  have hn8 : x.wins.length ≤ 8 := by omega
  have HX := Lib.hid (scoreText_t h1)
  have HOK := Lib.hid h1
  have HWF := Lib.hid (scoresL_wf x)
  have HSL : Hid ((scoresL x).length ≤ 8) := by show _ ≤ _; rw [scoresL_len]; exact hn8
  have g1 := scores_fmt hn8
  have htb := triF_bd hn8
  have hpb := partN_le h1
  have HSC : Hid (∀ W, Below w.heap.size w W → Calls Tryd.prog 12 #[.agg #[.int .i64 x.size, .slice A x.wins.length c]] W fun e w' => ∃ v', e = .returned v' ∧ Fr w' W.heap.size w'.heap.size v' (scoresL x) ∧ Below W.heap.size W w') := fun W hW => l02Scores_any _ x W (HIT.out.below hW) HOK.out
  have HTR : Hid (∀ W, Below w.heap.size w W → Calls Tryd.prog 14 #[.agg #[.int .i64 x.size, .slice A x.wins.length c]] W fun e w' => e = .returned (.int .i64 (triF x)) ∧ Below W.heap.size W w') := fun W hW => specTriangles_any _ x W (HIT.out.below hW) HOK.out
  have HPA : Hid (∀ W, Below w.heap.size w W → Calls Tryd.prog 15 #[.agg #[.int .i64 x.size, .slice A x.wins.length c]] W fun e w' => ∃ v' L, e = .returned v' ∧ Fr w' W.heap.size w'.heap.size v' L ∧ L.length = partN x ∧ Below W.heap.size W w') := fun W hW => specStrongParts_any _ x W (HIT.out.below hW) HOK.out
  obtain ⟨P, HP⟩ : ∃ P : Nat, Hid (partN x = P) := ⟨_, rfl⟩
  obtain ⟨TR, HTRe⟩ : ∃ TR : Int, Hid (triF x = TR) := ⟨_, rfl⟩
  rw [HP.out] at hpb
  rw [HP.out, HTRe.out] at HX
  rw [HTRe.out] at htb HTR
  have hl2 := Lib.itoa_length_le TR (by omega) (by omega)
  have hl3 := Lib.itoa_length_le (P : Int) (by omega) (by omega)
  have HFA : Hid (∀ W, Calls Tryd.prog 13 #[.int .i64 TR] W fun e w' => e = .returned (.string ⟨(Lib.itoa TR).toArray⟩) ∧ Below W.heap.size W w') := fun W  => specFormatInt_any TR W (by omega) (by omega)
  have HFB : Hid (∀ W, Calls Tryd.prog 13 #[.int .i64 (P : Int)] W fun e w' => e = .returned (.string ⟨(Lib.itoa (P : Int)).toArray⟩) ∧ Below W.heap.size W w') := fun W  => specFormatInt_any (P : Int) W (by omega) (by omega)
  obtain ⟨T1, HT1⟩ : ∃ T1, Hid (fmtF (scoresL x) = T1) := ⟨_, rfl⟩
  obtain ⟨T2, HT2⟩ : ∃ T2, Hid (Lib.itoa TR = T2) := ⟨_, rfl⟩
  obtain ⟨T3, HT3⟩ : ∃ T3, Hid (Lib.itoa (P : Int) = T3) := ⟨_, rfl⟩
  rw [HT1.out] at HX g1
  rw [HT2.out] at HX hl2 HFA
  rw [HT3.out] at HX hl3 HFB
  have HCAT := Lib.hid (scoreCat T1 T2 T3)
  have HGG : Hid (T1.length ≤ 200 ∧ T2.length ≤ 200 ∧ T3.length ≤ 200) := ⟨g1, by omega, by omega⟩
  have n2 : ¬ 9223372036854775807 < 7 + T1.length := by omega
  have n3 : ¬ 9223372036854775807 < 7 + T1.length + 11 := by omega
  have n4 : ¬ 9223372036854775807 < 7 + T1.length + 11 + T2.length := by omega
  have n5 : ¬ 9223372036854775807 < 7 + T1.length + 11 + T2.length + 7 := by omega
  have n6 : ¬ 9223372036854775807 < 7 + T1.length + 11 + T2.length + 7 + T3.length := by omega
  clear h1 t1 t2 t3 htb
  go_enter Tryd.func5, Tryd.ntmps5
  go_wp2_with (go_at_call 10; refine (HTO.out _ HBX.out.2.1).mono ?_; rintro e w1 ⟨rfl, hb⟩; rw [HOK.out]; have H1 : Hid (Bx w1 w.heap.size (.int .i64 x.size) (.slice A x.wins.length c) ∧ Below w.heap.size w w1) := ⟨HBX.out.1.below hb, HBX.out.2.1.trans (hb.mono (Nat.le_of_lt HBX.out.2.2))⟩; clear hb)
  obtain ⟨q0, q1, -⟩ := id H1.out.1
  have H1B : Hid (Below w.heap.size w w1.drew) := below_drewL H1.out.2
  have H1X : Hid (Bx w1.drew w.heap.size (.int .i64 x.size) (.slice A x.wins.length c)) := H1.out.1.drew
  go_region_held3 (fun W => W.cell? ⟨w.heap.size, 0, none⟩ = some (.int .i64 x.size) ∧ W.cell? ⟨w.heap.size, 1, none⟩ = some (.slice A x.wins.length c)) (first | exact ⟨q0, q1⟩ | exact ⟨H8.out.1.1, H8.out.1.2.1⟩ | exact ⟨H7.out.1.1, H7.out.1.2.1⟩ | exact ⟨H6.out.1.1, H6.out.1.2.1⟩ | exact ⟨H5.out.1.1, H5.out.1.2.1⟩ | exact ⟨H4.out.1.1, H4.out.1.2.1⟩ | exact ⟨H3.out.1.1, H3.out.1.2.1⟩ | exact ⟨H2.out.1.1, H2.out.1.2.1⟩) (first
    | (go_at_call 12; refine (HSC.out _ H1B.out).mono ?_; rintro e w2 ⟨v2, rfl, hf, hb⟩; have H2 : Hid (Bx w2 w.heap.size (.int .i64 x.size) (.slice A x.wins.length c) ∧ Below w.heap.size w w2) := (show _ ∧ _ from ⟨H1X.out.below hb, H1B.out.trans (hb.mono H1B.out.size)⟩); have H2I : Hid (InI w2 v2 (scoresL x)) := hf.in_; clear hb hf)
    | (go_at_call 11; refine (specFormatNumbers_any v2 (scoresL x) _ H2I.out (by have := HSL.out; omega) HWF.out).mono ?_; rintro e w3 ⟨rfl, hb⟩; rw [HT1.out]; have H3 : Hid (Bx w3 w.heap.size (.int .i64 x.size) (.slice A x.wins.length c) ∧ Below w.heap.size w w3) := (show _ ∧ _ from ⟨H2.out.1.below hb, H2.out.2.trans (hb.mono H2.out.2.size)⟩); clear hb)
    | (go_at_call 14; refine (HTR.out _ H3.out.2).mono ?_; rintro e w4 ⟨rfl, hb⟩; have H4 : Hid (Bx w4 w.heap.size (.int .i64 x.size) (.slice A x.wins.length c) ∧ Below w.heap.size w w4) := (show _ ∧ _ from ⟨H3.out.1.below hb, H3.out.2.trans (hb.mono H3.out.2.size)⟩); clear hb)
    | (go_at_call 13; have h_ := H4.out; clear h_; (with_reducible refine (HFA.out _ ).mono ?_); rintro e w5 ⟨rfl, hb⟩; have H5 : Hid (Bx w5 w.heap.size (.int .i64 x.size) (.slice A x.wins.length c) ∧ Below w.heap.size w w5) := (show _ ∧ _ from ⟨H4.out.1.below hb, H4.out.2.trans (hb.mono H4.out.2.size)⟩); clear hb)
    | (go_at_call 15; refine (HPA.out _ H5.out.2).mono ?_; rintro e w6 ⟨v6, L6, rfl, hf, hl6, hb⟩; have H6 : Hid (Bx w6 w.heap.size (.int .i64 x.size) (.slice A x.wins.length c) ∧ Below w.heap.size w w6) := (show _ ∧ _ from ⟨H5.out.1.below hb, H5.out.2.trans (hb.mono H5.out.2.size)⟩); obtain ⟨A6, c6, rfl, -⟩ := hf.form; rw [hl6, HP.out]; clear hb hf hl6)
    | (go_at_call 13; have h_ := H6.out; clear h_; (with_reducible refine (HFB.out _ ).mono ?_); rintro e w7 ⟨rfl, hb⟩; have H7 : Hid (Bx w7 w.heap.size (.int .i64 x.size) (.slice A x.wins.length c) ∧ Below w.heap.size w w7) := (show _ ∧ _ from ⟨H6.out.1.below hb, H6.out.2.trans (hb.mono H6.out.2.size)⟩); clear hb))
  go_wp2
  go_ret
  exact ⟨by rw [HX.out, ← HCAT.out]; rfl, H7.out.2⟩

theorem implScoreLine_std (v : Value) (x : TourV) (w : World) (hs : InT w v x) (_hn : x.wins.length ≤ 1048576) (ht : tabP w) :
    Calls Tryd.prog 7 #[v] w fun e w' => e = .returned (.string ⟨(scoreText x).toArray⟩) ∧ Below w.heap.size w w' := implScoreLine_any v x w hs ht
theorem specScoreLine_std (v : Value) (x : TourV) (w : World) (hs : InT w v x) (_hn : x.wins.length ≤ 1048576) :
    Calls Tryd.prog 5 #[v] w fun e w' => e = .returned (.string ⟨(scoreText x).toArray⟩) ∧ Below w.heap.size w w' := specScoreLine_any v x w hs
end Go.Proofs.YtcnbmcglfkhepaaDoor
