/- The line of scores: both packages' contracts. -/
import Derived.Test.YtofpaekokmkhgaaGreatDoorMbk
import Derived.Test.YtofpaekokmkhgaaGreatDoorMbg
import Derived.Test.YtofpaekokmkhgaaGreatDoorMai
import Derived.Test.YtofpaekokmkhgaaGreatDoorMba
namespace Go.Proofs.YtofpaekokmkhgaaGreatDoor
open Go.ChangeShapes Go.WideShapes Go.ChangeAt Go.RowKit

def scW : List UInt8 := [115, 99, 111, 114, 101, 115]
def trW : List UInt8 := [116, 114, 105, 97, 110, 103, 108, 101, 115]
def paW : List UInt8 := [112, 97, 114, 116, 115]
def scoreTextT (a b c : List UInt8) : List UInt8 := Lib.join [scW, a, trW, b, paW, c] [32]
def scoreText (x : TourV) : List UInt8 := if tourB x then scoreTextT (fmtF (scoresL x)) (Lib.itoa (triF x)) (Lib.itoa (partN x : Nat)) else [110, 111, 110, 101]
theorem scoreText_t {x : TourV} (h : tourB x = true) : scoreText x = scoreTextT (fmtF (scoresL x)) (Lib.itoa (triF x)) (Lib.itoa (partN x : Nat)) := by rw [scoreText, if_pos h]
theorem scoreText_f {x : TourV} (h : tourB x = false) : scoreText x = [110, 111, 110, 101] := by rw [scoreText, h]; rfl
theorem join6 (a b c d e f : List UInt8) : Lib.join [a, b, c, d, e, f] [32] = a ++ [32] ++ b ++ [32] ++ c ++ [32] ++ d ++ [32] ++ e ++ [32] ++ f := by
  simp [Lib.join_cons, Lib.joinTail, List.append_assoc]
theorem scoreCat (a b c : List UInt8) : (((((⟨#[115, 99, 111, 114, 101, 115, 32]⟩ : ByteArray) ++ ⟨a.toArray⟩) ++ ⟨#[32, 116, 114, 105, 97, 110, 103, 108, 101, 115, 32]⟩) ++ ⟨b.toArray⟩) ++ ⟨#[32, 112, 97, 114, 116, 115, 32]⟩) ++ ⟨c.toArray⟩ = ⟨(scoreTextT a b c).toArray⟩ := by
  rw [show (⟨#[115, 99, 111, 114, 101, 115, 32]⟩ : ByteArray) = ⟨([115, 99, 111, 114, 101, 115, 32] : List UInt8).toArray⟩ from rfl, show (⟨#[32, 116, 114, 105, 97, 110, 103, 108, 101, 115, 32]⟩ : ByteArray) = ⟨([32, 116, 114, 105, 97, 110, 103, 108, 101, 115, 32] : List UInt8).toArray⟩ from rfl, show (⟨#[32, 112, 97, 114, 116, 115, 32]⟩ : ByteArray) = ⟨([32, 112, 97, 114, 116, 115, 32] : List UInt8).toArray⟩ from rfl, bcat, bcat, bcat, bcat, bcat, scoreTextT, join6]
  simp [scW, trW, paW]
theorem scoresL_wf (x : TourV) : wfI (scoresL x) := by
  intro y hy
  have := scoresL_bd y hy
  omega
theorem scores_fmt {x : TourV} (h : x.wins.length ≤ 8) : (fmtF (scoresL x)).length ≤ 200 := by
  have hw := scoresL_wf x
  have hl := scoresL_len x
  unfold fmtF
  split
  · simp
  · have := fmt_bound hw; omega
theorem triF_bd {x : TourV} (h : x.wins.length ≤ 8) : -224 ≤ triF x ∧ triF x ≤ 56 := by
  have := triT_bd h x.wins.length
  unfold triF
  omega

theorem join6_any (w : World) (T1 T2 T3 : List UInt8) (h1 : T1.length ≤ 200) (h2 : T2.length ≤ 200) (h3 : T3.length ≤ 200) :
    Calls Tryz.prog 31 #[.slice (some ⟨w.heap.size, 0, none⟩) 6 6, .string ⟨#[32]⟩] (w.alloc (.cells #[.string ⟨#[115, 99, 111, 114, 101, 115]⟩, .string ⟨T1.toArray⟩, .string ⟨#[116, 114, 105, 97, 110, 103, 108, 101, 115]⟩, .string ⟨T2.toArray⟩, .string ⟨#[112, 97, 114, 116, 115]⟩, .string ⟨T3.toArray⟩] 9)) fun e w' => e = .returned (.string ⟨(scoreTextT T1 T2 T3).toArray⟩) ∧ Below w.heap.size w w' := by
  have ho := World.ownsRow_lit (base := w.heap.size) (e := 9) (size := 1) w #[.string ⟨scW.toArray⟩, .string ⟨T1.toArray⟩, .string ⟨trW.toArray⟩, .string ⟨T2.toArray⟩, .string ⟨paW.toArray⟩, .string ⟨T3.toArray⟩] 6 (Nat.le_refl _) (by unfold maxLen; omega) rfl
  have h := implJoin_any _ w.heap.size 6 [scW, T1, trW, T2, paW, T3] [32] _ ho (by omega) (by omega) (by rw [join6]; simp [scW, trW, paW]; omega)
  exact h.mono fun e w' ⟨he, hb⟩ => ⟨he, ((Below.refl _ w).alloc (Nat.le_refl _) _).trans (hb.mono (by simp))⟩
set_option maxHeartbeats 4000000 in
set_option maxRecDepth 100000 in
theorem implScoreLine_any (v : Value) (x : TourV) (w : World) (hs : InT w v x) (ht : tabP w) :
    Calls Tryz.prog 9 #[v] w fun e w' => e = .returned (.string ⟨(scoreText x).toArray⟩) ∧ Below w.heap.size w w' := by
  have HIT := Lib.hid hs
  have HT := Lib.hid ht
  obtain ⟨u, rfl, A, c, rfl, hc, hm, hsl⟩ := hs
  have HTO : Hid (∀ W, Below w.heap.size w W → Calls Tryz.prog 30 #[.agg #[.int .i64 x.size, .slice A x.wins.length c]] W fun e w' => e = .returned (.bool (tourB x)) ∧ Below W.heap.size W w') := fun W hW => implTourOk_any _ x W (HIT.out.below hW)
  have HBX : Hid (Bx (w.alloc (.cells #[.int .i64 x.size, .slice A x.wins.length c] 25)) w.heap.size (.int .i64 x.size) (.slice A x.wins.length c) ∧ Below w.heap.size w (w.alloc (.cells #[.int .i64 x.size, .slice A x.wins.length c] 25)) ∧ w.heap.size < (w.alloc (.cells #[.int .i64 x.size, .slice A x.wins.length c] 25)).heap.size) := ⟨⟨by simp, by simp, by simp⟩, (Below.refl _ w).alloc (Nat.le_refl _) _, by simp⟩
  clear hsl
  cases h1 : tourB x
  case false =>
    have HX : Hid (scoreText x = [110, 111, 110, 101]) := scoreText_f h1
    go_enter Tryz.func9, Tryz.ntmps9
    go_wp2_with (go_at_call 30; refine (HTO.out _ HBX.out.2.1).mono ?_; rintro e w1 ⟨rfl, hb⟩; rw [h1]; have HB : Hid (Below w.heap.size w w1) := HBX.out.2.1.trans (hb.mono HBX.out.2.1.size); clear hb)
    go_ret
    exact ⟨by rw [HX.out]; rfl, HB.out⟩
  obtain ⟨t1, t2, t3, _, _⟩ := tourB_t h1
  have hn8 : x.wins.length ≤ 8 := by omega
  have HX := Lib.hid (scoreText_t h1)
  have HOK := Lib.hid h1
  have HWF := Lib.hid (scoresL_wf x)
  have HSL : Hid ((scoresL x).length ≤ 8) := by show _ ≤ _; rw [scoresL_len]; exact hn8
  have g1 := scores_fmt hn8
  have htb := triF_bd hn8
  have hpb := partN_le h1
  have HSC : Hid (∀ W, Below w.heap.size w W → Calls Tryz.prog 11 #[.agg #[.int .i64 x.size, .slice A x.wins.length c]] W fun e w' => ∃ v', e = .returned v' ∧ Fr w' W.heap.size w'.heap.size v' (scoresL x) ∧ Below W.heap.size W w') := fun W hW => implScoresOf_any _ x W (HIT.out.below hW) HOK.out
  have HTR : Hid (∀ W, Below w.heap.size w W → Calls Tryz.prog 13 #[.agg #[.int .i64 x.size, .slice A x.wins.length c]] W fun e w' => e = .returned (.int .i64 (triF x)) ∧ Below W.heap.size W w') := fun W hW => implTriangles_any _ x W (HIT.out.below hW) HOK.out
  have HPA : Hid (∀ W, Below w.heap.size w W → Calls Tryz.prog 14 #[.agg #[.int .i64 x.size, .slice A x.wins.length c]] W fun e w' => ∃ v' L, e = .returned v' ∧ Fr w' W.heap.size w'.heap.size v' L ∧ L.length = partN x ∧ Below W.heap.size W w') := fun W hW => implStrongParts_any _ x W (HIT.out.below hW) HOK.out
  obtain ⟨P, HP⟩ : ∃ P : Nat, Hid (partN x = P) := ⟨_, rfl⟩
  obtain ⟨TR, HTRe⟩ : ∃ TR : Int, Hid (triF x = TR) := ⟨_, rfl⟩
  rw [HP.out] at hpb
  rw [HP.out, HTRe.out] at HX
  rw [HTRe.out] at htb HTR
  have hl2 := Lib.itoa_length_le TR (by omega) (by omega)
  have hl3 := Lib.itoa_length_le (P : Int) (by omega) (by omega)
  have HFA : Hid (∀ W, Below w.heap.size w W → Calls Tryz.prog 12 #[.int .i64 TR] W fun e w' => e = .returned (.string ⟨(Lib.itoa TR).toArray⟩) ∧ Below W.heap.size W w') := fun W hW => implFormatInt_any TR W (by omega) (by omega) (HT.out.below hW (Nat.le_refl _))
  have HFB : Hid (∀ W, Below w.heap.size w W → Calls Tryz.prog 12 #[.int .i64 (P : Int)] W fun e w' => e = .returned (.string ⟨(Lib.itoa (P : Int)).toArray⟩) ∧ Below W.heap.size W w') := fun W hW => implFormatInt_any (P : Int) W (by omega) (by omega) (HT.out.below hW (Nat.le_refl _))
  obtain ⟨T1, HT1⟩ : ∃ T1, Hid (fmtF (scoresL x) = T1) := ⟨_, rfl⟩
  obtain ⟨T2, HT2⟩ : ∃ T2, Hid (Lib.itoa TR = T2) := ⟨_, rfl⟩
  obtain ⟨T3, HT3⟩ : ∃ T3, Hid (Lib.itoa (P : Int) = T3) := ⟨_, rfl⟩
  rw [HT1.out] at HX g1
  rw [HT2.out] at HX hl2 HFA
  rw [HT3.out] at HX hl3 HFB
  have HCAT := Lib.hid (scoreCat T1 T2 T3)
  have HGG : Hid (T1.length ≤ 200 ∧ T2.length ≤ 200 ∧ T3.length ≤ 200) := ⟨g1, by omega, by omega⟩
  clear h1 t1 t2 t3 htb
  go_enter Tryz.func9, Tryz.ntmps9
  go_wp2_with (go_at_call 30; refine (HTO.out _ HBX.out.2.1).mono ?_; rintro e w1 ⟨rfl, hb⟩; rw [HOK.out]; have H1 : Hid (Bx w1 w.heap.size (.int .i64 x.size) (.slice A x.wins.length c) ∧ Below w.heap.size w w1) := ⟨HBX.out.1.below hb, HBX.out.2.1.trans (hb.mono (Nat.le_of_lt HBX.out.2.2))⟩; clear hb)
  obtain ⟨q0, q1, -⟩ := id H1.out.1
  have H1B : Hid (Below w.heap.size w w1.drew) := below_drewL H1.out.2
  have H1X : Hid (Bx w1.drew w.heap.size (.int .i64 x.size) (.slice A x.wins.length c)) := H1.out.1.drew
  go_region_held3 (fun W => W.cell? ⟨w.heap.size, 0, none⟩ = some (.int .i64 x.size) ∧ W.cell? ⟨w.heap.size, 1, none⟩ = some (.slice A x.wins.length c)) (first | exact ⟨q0, q1⟩ | exact ⟨H8.out.1.1, H8.out.1.2.1⟩ | exact ⟨(H7.out.1.below ((Below.refl _ w7).alloc (Nat.le_refl _) _)).1, (H7.out.1.below ((Below.refl _ w7).alloc (Nat.le_refl _) _)).2.1⟩ | exact ⟨H7.out.1.1, H7.out.1.2.1⟩ | exact ⟨H6.out.1.1, H6.out.1.2.1⟩ | exact ⟨H5.out.1.1, H5.out.1.2.1⟩ | exact ⟨H4.out.1.1, H4.out.1.2.1⟩ | exact ⟨H3.out.1.1, H3.out.1.2.1⟩ | exact ⟨H2.out.1.1, H2.out.1.2.1⟩) (first
    | (go_at_call 11; refine (HSC.out _ H1B.out).mono ?_; rintro e w2 ⟨v2, rfl, hf, hb⟩; have H2 : Hid (Bx w2 w.heap.size (.int .i64 x.size) (.slice A x.wins.length c) ∧ Below w.heap.size w w2) := (show _ ∧ _ from ⟨H1X.out.below hb, H1B.out.trans (hb.mono H1B.out.size)⟩); have H2I : Hid (InI w2 v2 (scoresL x)) := hf.in_; clear hb hf)
    | (go_at_call 10; refine (implFormatNumbers_any v2 (scoresL x) _ H2I.out (by have := HSL.out; omega) HWF.out (HT.out.below H2.out.2 (Nat.le_refl _))).mono ?_; rintro e w3 ⟨rfl, hb⟩; rw [HT1.out]; have H3 : Hid (Bx w3 w.heap.size (.int .i64 x.size) (.slice A x.wins.length c) ∧ Below w.heap.size w w3) := (show _ ∧ _ from ⟨H2.out.1.below hb, H2.out.2.trans (hb.mono H2.out.2.size)⟩); clear hb)
    | (go_at_call 13; refine (HTR.out _ H3.out.2).mono ?_; rintro e w4 ⟨rfl, hb⟩; have H4 : Hid (Bx w4 w.heap.size (.int .i64 x.size) (.slice A x.wins.length c) ∧ Below w.heap.size w w4) := (show _ ∧ _ from ⟨H3.out.1.below hb, H3.out.2.trans (hb.mono H3.out.2.size)⟩); clear hb)
    | (go_at_call 12; have h_ := H4.out; clear h_; (with_reducible refine (HFA.out _ H4.out.2).mono ?_); rintro e w5 ⟨rfl, hb⟩; have H5 : Hid (Bx w5 w.heap.size (.int .i64 x.size) (.slice A x.wins.length c) ∧ Below w.heap.size w w5) := (show _ ∧ _ from ⟨H4.out.1.below hb, H4.out.2.trans (hb.mono H4.out.2.size)⟩); clear hb)
    | (go_at_call 14; refine (HPA.out _ H5.out.2).mono ?_; rintro e w6 ⟨v6, L6, rfl, hf, hl6, hb⟩; have H6 : Hid (Bx w6 w.heap.size (.int .i64 x.size) (.slice A x.wins.length c) ∧ Below w.heap.size w w6) := (show _ ∧ _ from ⟨H5.out.1.below hb, H5.out.2.trans (hb.mono H5.out.2.size)⟩); obtain ⟨A6, c6, rfl, -⟩ := hf.form; rw [hl6, HP.out]; clear hb hf hl6)
    | (go_at_call 12; have h_ := H6.out; clear h_; (with_reducible refine (HFB.out _ H6.out.2).mono ?_); rintro e w7 ⟨rfl, hb⟩; have H7 : Hid (Bx w7 w.heap.size (.int .i64 x.size) (.slice A x.wins.length c) ∧ Below w.heap.size w w7) := (show _ ∧ _ from ⟨H6.out.1.below hb, H6.out.2.trans (hb.mono H6.out.2.size)⟩); clear hb)
    | (go_at_call 31; refine (join6_any w7 T1 T2 T3 HGG.out.1 HGG.out.2.1 HGG.out.2.2).mono ?_; rintro e w8 ⟨rfl, hb⟩; have H8 : Hid (Bx w8 w.heap.size (.int .i64 x.size) (.slice A x.wins.length c) ∧ Below w.heap.size w w8) := (show _ ∧ _ from ⟨H7.out.1.below hb, H7.out.2.trans (hb.mono H7.out.2.size)⟩); clear hb))
  go_wp2
  go_ret
  exact ⟨by rw [HX.out]; rfl, H8.out.2⟩
end Go.Proofs.YtofpaekokmkhgaaGreatDoor
namespace Go.Proofs.YtofpaekokmkhgaaGreatDoor
open Go.ChangeShapes Go.WideShapes Go.ChangeAt Go.RowKit

/-- The fewest reversals of an order of the set s. -/
def fe (x : TourV) (s : Nat) : Int := (entF x (tabF x s) s).1
theorem fsts_fe {x : TourV} {t s : Nat} (h : t < s) : (fsts x s)[t]? = some (fe x t) := by
  rw [fsts_at h, List.getD_eq_getElem?_getD, tabF_at x h]; rfl
theorem fe_bd {x : TourV} {s : Nat} (h : s < 256) : 0 ≤ fe x s ∧ fe x s ≤ 64 := by
  have h1 := (entF_ok x s h).lo
  have h2 := (entF_ok x s h).hi
  have h3 := cntL_le s
  unfold fe
  omega
/-- The player y may be the first one of a best order of the set s. -/
def okF (x : TourV) (s : Nat) (y : Int) : Bool := decide ((costN x y.toNat s : Int) + fe x (s - 2 ^ y.toNat) = fe x s)
def pickF (x : TourV) (s : Nat) : Option Int := (memL s).find? (okF x s)
def bestL (x : TourV) : Nat → Nat → List Int
  | 0, _ => []
  | k + 1, s => match pickF x s with
    | some a => a :: bestL x k (s - 2 ^ a.toNat)
    | none => []
theorem stepC_one (p : Int × Int) (cost ways : Int) : (stepC p cost ways).1 = cost ∨ ((stepC p cost ways).1 = p.1 ∧ 0 ≤ p.1) := by
  unfold stepC
  split
  · exact .inl rfl
  · next h =>
    split
    · next h2 => exact .inl h2.symm
    · exact .inr ⟨rfl, by omega⟩
theorem entT_from (x : TourV) (l : List (Int × Int)) (s : Nat) : ∀ k, (entT x l s k = (-1, 0) ∧ ∀ a, a < k → s.testBit a = false) ∨ ∃ a, a < k ∧ s.testBit a = true ∧ (entT x l s k).1 = (costN x a s : Int) + (l.getD (s - 2 ^ a) (0, 0)).1 := by
  intro k
  induction k with
  | zero => exact .inl ⟨rfl, fun a h => absurd h (Nat.not_lt_zero _)⟩
  | succ k ih =>
    cases hb : s.testBit k
    · rw [entT_out hb]
      rcases ih with ⟨h1, h2⟩ | ⟨a, h1, h2, h3⟩
      · refine .inl ⟨h1, fun a ha => ?_⟩
        rcases Nat.eq_or_lt_of_le (Nat.le_of_lt_succ ha) with rfl | ha
        · exact hb
        · exact h2 a ha
      · exact .inr ⟨a, by omega, h2, h3⟩
    · rw [entT_in hb]
      refine .inr ?_
      rcases stepC_one (entT x l s k) ((costN x k s : Int) + (l.getD (s - 2 ^ k) (0, 0)).1) (l.getD (s - 2 ^ k) (0, 0)).2 with h | ⟨h, h0⟩
      · exact ⟨k, Nat.lt_succ_self _, hb, h⟩
      · rcases ih with ⟨h1, _⟩ | ⟨a, h1, h2, h3⟩
        · rw [h1] at h0; exact absurd h0 (by decide)
        · exact ⟨a, by omega, h2, h.trans h3⟩
theorem pick_some {x : TourV} {s : Nat} (h0 : s ≠ 0) (hs : s < 256) : ∃ a, a < 8 ∧ s.testBit a = true ∧ okF x s (a : Int) = true := by
  rcases entT_from x (tabF x s) s 8 with ⟨_, h⟩ | ⟨a, h1, h2, h3⟩
  · exact absurd (cnt_zero_all ⟨s, hs⟩ (fun a => h a.val a.isLt)) h0
  · refine ⟨a, h1, h2, ?_⟩
    have hle := (sub_all ⟨s, hs⟩ ⟨a, h1⟩ h2).1
    have hp : 0 < 2 ^ a := Nat.pow_pos (by omega)
    have hlt : s - 2 ^ a < s := by simp only at hle; omega
    rw [List.getD_eq_getElem?_getD, tabF_at x hlt, Option.getD_some] at h3
    have e : fe x s = (costN x a s : Int) + fe x (s - 2 ^ a) := by
      unfold fe
      rw [entF, if_neg h0]
      exact h3
    rw [okF, Int.toNat_natCast, e]
    exact decide_eq_true rfl
theorem pick_end {x : TourV} {s : Nat} (h0 : s ≠ 0) (hs : s < 256) (h : ∀ y ∈ memL s, okF x s y = false) : False := by
  obtain ⟨a, h1, h2, h3⟩ := pick_some (x := x) h0 hs
  rw [h (a : Int) (memT_mem.2 ⟨a, rfl, h1, h2⟩)] at h3
  cases h3
theorem pick_at {x : TourV} {s j : Nat} {y : Int} (hy : (memL s)[j]? = some y) (h : ∀ u ∈ (memL s).take j, okF x s u = false) (hok : okF x s y = true) : pickF x s = some y := by
  obtain ⟨hl, e⟩ := List.getElem?_eq_some_iff.1 hy
  have e2 : memL s = (memL s).take j ++ (y :: (memL s).drop (j + 1)) := by
    rw [← e, ← List.drop_eq_getElem_cons hl, List.take_append_drop]
  rw [pickF, e2, List.find?_append, List.find?_eq_none.2 (fun u hu => by simp [h u hu])]
  simp [hok]
theorem bestL_step {x : TourV} {k s : Nat} {a : Nat} (h : pickF x s = some (a : Int)) : bestL x (k + 1) s = (a : Int) :: bestL x k (s - 2 ^ a) := by rw [bestL, h]; rfl
theorem bestL_end (x : TourV) (k : Nat) : bestL x k 0 = [] := by
  cases k with
  | zero => rfl
  | succ k => rfl
theorem bestL_mem {x : TourV} : ∀ (k s : Nat), ∀ y ∈ bestL x k s, 0 ≤ y ∧ y < 8 := by
  intro k
  induction k with
  | zero => intro s y hy; simp [bestL] at hy
  | succ k ih =>
    intro s y hy
    rw [bestL] at hy
    split at hy
    · next a ha =>
      rcases List.mem_cons.1 hy with rfl | hy
      · obtain ⟨b, rfl, hb, _⟩ := memT_mem.1 (List.mem_of_find?_eq_some ha)
        omega
      · exact ih _ y hy
    · simp at hy
theorem bestL_len {x : TourV} : ∀ (k s : Nat), (bestL x k s).length ≤ k := by
  intro k
  induction k with
  | zero => intro s; simp [bestL]
  | succ k ih =>
    intro s
    rw [bestL]
    split
    · rw [List.length_cons]; have := ih (s - 2 ^ (‹Int›).toNat); omega
    · simp
theorem cnt_sub {s a : Nat} (hs : s < 256) (ha : a < 8) (h : s.testBit a = true) : cntL (s - 2 ^ a) + 1 = cntL s := sub_cnt_all ⟨s, hs⟩ ⟨a, ha⟩ h
end Go.Proofs.YtofpaekokmkhgaaGreatDoor
