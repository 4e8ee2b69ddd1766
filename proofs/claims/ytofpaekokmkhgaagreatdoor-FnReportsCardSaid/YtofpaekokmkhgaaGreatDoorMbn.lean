/- Orders with few reversals: how few. -/
import Derived.Test.YtofpaekokmkhgaaGreatDoorBow
import Derived.Test.YtofpaekokmkhgaaGreatDoorMaj
import Derived.Test.YtofpaekokmkhgaaGreatDoorMbg
import Derived.Test.YtofpaekokmkhgaaGreatDoorMai
namespace Go.Proofs.YtofpaekokmkhgaaGreatDoor
open Go.ChangeShapes Go.WideShapes Go.ChangeAt Go.RowKit

set_option maxHeartbeats 4000000 in
set_option maxRecDepth 100000 in
theorem implFewest_any (v : Value) (x : TourV) (w : World) (hs : InT w v x) (hok : tourB x = true) :
    Calls Tryz.prog 17 #[v] w fun e w' => e = .returned (.int .i64 (fe x (2 ^ x.wins.length - 1))) ∧ Below w.heap.size w w' := by
  have HIT := Lib.hid hs
  have HOK := Lib.hid hok
  obtain ⟨u, rfl, A, c, rfl, hc, hm, hsl⟩ := hs
  obtain ⟨t1, t2, t3, _, _⟩ := tourB_t hok
  have hn8 : x.wins.length ≤ 8 := by omega
  have hT2 : (2 : Int) ^ x.wins.length = ((2 ^ x.wins.length : Nat) : Int) := by rw [Int.natCast_pow]; rfl
  have h256 : (2 : Nat) ^ x.wins.length ≤ 256 := Nat.pow_le_pow_right (by omega) hn8
  have hpos : 1 ≤ (2 : Nat) ^ x.wins.length := Nat.one_le_two_pow
  have HTO : Hid (∀ W, Below w.heap.size w W → Calls Tryz.prog 30 #[.agg #[.int .i64 x.size, .slice A x.wins.length c]] W fun e w' => e = .returned (.bool true) ∧ Below W.heap.size W w') := fun W hW => by
    have h := implTourOk_any _ x W (HIT.out.below hW)
    rwa [HOK.out] at h
  have HTAB : Hid (∀ W, Below w.heap.size w W → Calls Tryz.prog 36 #[.agg #[.int .i64 x.size, .slice A x.wins.length c]] W fun e w' => ∃ vb vw, e = .returned (.tuple #[vb, vw]) ∧ InI w' vb (fsts x (2 ^ x.wins.length)) ∧ Below W.heap.size W w') := fun W hW => arranged_any _ x W (HIT.out.below hW) HOK.out
  obtain ⟨T, HT⟩ : ∃ T : Nat, Hid (2 ^ x.wins.length = T) := ⟨_, rfl⟩
  rw [HT.out] at h256 hpos HTAB hT2 ⊢
  have HSZ : Hid (x.size = (x.wins.length : Int)) := t3.symm
  have HBX : Hid (Bx (w.alloc (.cells #[.int .i64 x.size, .slice A x.wins.length c] 25)) w.heap.size (.int .i64 x.size) (.slice A x.wins.length c) ∧ Below w.heap.size w (w.alloc (.cells #[.int .i64 x.size, .slice A x.wins.length c] 25)) ∧ w.heap.size < (w.alloc (.cells #[.int .i64 x.size, .slice A x.wins.length c] 25)).heap.size) := ⟨⟨by simp, by simp, by simp⟩, (Below.refl _ w).alloc (Nat.le_refl _) _, by simp⟩
  rw [HSZ.out] at HBX HTO HTAB
  rw [HSZ.out]
  have eT : wrap64 (T : Int) = T := by unfold wrap64; omega
  have eT1 : wrap64 ((T : Int) - 1) = ((T - 1 : Nat) : Int) := by unfold wrap64; omega
  have eT' : IntKind.i64.wrap (T : Int) = T := by rw [IntKind.wrap_i64]; omega
  have eT1' : IntKind.i64.wrap ((T : Int) - 1) = ((T - 1 : Nat) : Int) := by rw [IntKind.wrap_i64]; omega
  have hlT : ((T - 1 : Nat) : Int) < (T : Int) := by omega
  obtain ⟨T1, HT1⟩ : ∃ T1, Hid (T - 1 = T1) := ⟨_, rfl⟩
  rw [HT1.out] at eT1 eT1' hlT ⊢
  clear hsl hok t1 t2 t3
  go_enter Tryz.func17, Tryz.ntmps17
  go_wp2_with (first
    | (go_at_call 30; refine (HTO.out _ HBX.out.2.1).mono ?_; rintro e w0 ⟨rfl, hb⟩; have H0 : Hid (Bx w0 w.heap.size (.int .i64 (x.wins.length : Int)) (.slice A x.wins.length c) ∧ Below w.heap.size w w0 ∧ w.heap.size < w0.heap.size) := (show _ ∧ _ from ⟨HBX.out.1.below hb, HBX.out.2.1.trans (hb.mono (Nat.le_of_lt HBX.out.2.2)), Nat.lt_of_lt_of_le HBX.out.2.2 hb.size⟩); clear hb HBX; obtain ⟨q0, q1, q2⟩ := id H0.out.1)
    | (go_at_call 36; refine (HTAB.out _ H0.out.2.1).mono ?_; rintro e w1 ⟨vb, vw, rfl, hin, hb⟩; obtain ⟨bf, of, cf, rfl, hbf, hcell⟩ := hin.cells (by rw [fsts_len]; omega); rw [fsts_len]; have H1 : Hid (Bx w1 w.heap.size (.int .i64 (x.wins.length : Int)) (.slice A x.wins.length c) ∧ Below w.heap.size w w1) := (show _ ∧ _ from ⟨H0.out.1.below hb, H0.out.2.1.trans (hb.mono (Nat.le_of_lt H0.out.2.2))⟩); have qs := hcell T1 (fe x T1) (fsts_fe (by omega)); clear hin hb hcell hbf q0 q1 q2 H0; obtain ⟨q0, q1, q2⟩ := id H1.out.1))
  first
    | go_ret
    | go_outline
  all_goals exact ⟨rfl, H1.out.2⟩
end Go.Proofs.YtofpaekokmkhgaaGreatDoor
namespace Go.Proofs.YtofpaekokmkhgaaGreatDoor
open Go.ChangeShapes Go.WideShapes Go.ChangeAt Go.RowKit

def orderL (x : TourV) : List Int := bestL x 8 (2 ^ x.wins.length - 1)
def orderF (x : TourV) : Int := fe x (2 ^ x.wins.length - 1)
def orderText (x : TourV) : List UInt8 := if tourB x then fmtF (orderL x) ++ [32] ++ Lib.itoa (orderF x) else [110, 111, 110, 101]
theorem orderText_t {x : TourV} (h : tourB x = true) : orderText x = fmtF (orderL x) ++ [32] ++ Lib.itoa (orderF x) := by rw [orderText, if_pos h]
theorem orderText_f {x : TourV} (h : tourB x = false) : orderText x = [110, 111, 110, 101] := by rw [orderText, h]; rfl
theorem orderL_wf (x : TourV) : wfI (orderL x) := by
  intro y hy
  have := bestL_mem _ _ y hy
  omega
theorem orderL_len (x : TourV) : (orderL x).length ≤ 8 := bestL_len _ _
theorem order_fmt (x : TourV) : (fmtF (orderL x)).length ≤ 200 := by
  have h := orderL_wf x
  have hl := orderL_len x
  unfold fmtF
  split
  · simp
  · have := fmt_bound h; omega
theorem orderF_bd {x : TourV} (h : x.wins.length ≤ 8) : 0 ≤ orderF x ∧ orderF x ≤ 64 := by
  have h2 : (2 : Nat) ^ x.wins.length ≤ 256 := Nat.pow_le_pow_right (by omega) h
  have h3 : 0 < (2 : Nat) ^ x.wins.length := Nat.pow_pos (by omega)
  exact fe_bd (by omega)
theorem orderCat (a b : List UInt8) : ((⟨a.toArray⟩ : ByteArray) ++ ⟨#[32]⟩) ++ ⟨b.toArray⟩ = ⟨(a ++ [32] ++ b).toArray⟩ := by
  rw [show (⟨#[32]⟩ : ByteArray) = ⟨([32] : List UInt8).toArray⟩ from rfl, bcat, bcat]

set_option maxHeartbeats 4000000 in
set_option maxRecDepth 100000 in
theorem implOrderLine_any (v : Value) (x : TourV) (w : World) (hs : InT w v x) (ht : tabP w) :
    Calls Tryz.prog 15 #[v] w fun e w' => e = .returned (.string ⟨(orderText x).toArray⟩) ∧ Below w.heap.size w w' := by
  have HIT := Lib.hid hs
  have HT := Lib.hid ht
  obtain ⟨u, rfl, A, c, rfl, hc, hm, hsl⟩ := hs
  have HTO : Hid (∀ W, Below w.heap.size w W → Calls Tryz.prog 30 #[.agg #[.int .i64 x.size, .slice A x.wins.length c]] W fun e w' => e = .returned (.bool (tourB x)) ∧ Below W.heap.size W w') := fun W hW => implTourOk_any _ x W (HIT.out.below hW)
  have HBX : Hid (Bx (w.alloc (.cells #[.int .i64 x.size, .slice A x.wins.length c] 25)) w.heap.size (.int .i64 x.size) (.slice A x.wins.length c) ∧ Below w.heap.size w (w.alloc (.cells #[.int .i64 x.size, .slice A x.wins.length c] 25)) ∧ w.heap.size < (w.alloc (.cells #[.int .i64 x.size, .slice A x.wins.length c] 25)).heap.size) := ⟨⟨by simp, by simp, by simp⟩, (Below.refl _ w).alloc (Nat.le_refl _) _, by simp⟩
  clear hsl
  cases h1 : tourB x
  case false =>
    have HX : Hid (orderText x = [110, 111, 110, 101]) := orderText_f h1
    go_enter Tryz.func15, Tryz.ntmps15
    go_wp2_with (go_at_call 30; refine (HTO.out _ HBX.out.2.1).mono ?_; rintro e w1 ⟨rfl, hb⟩; rw [h1]; have HB : Hid (Below w.heap.size w w1) := HBX.out.2.1.trans (hb.mono HBX.out.2.1.size); clear hb)
    go_ret
    exact ⟨by rw [HX.out]; rfl, HB.out⟩
  obtain ⟨t1, t2, t3, _, _⟩ := tourB_t h1
  have HX : Hid (orderText x = fmtF (orderL x) ++ [32] ++ Lib.itoa (orderF x)) := orderText_t h1
  have HOK := Lib.hid h1
  have HWF := Lib.hid (orderL_wf x)
  have HLL := Lib.hid (orderL_len x)
  have g1 := order_fmt x
  have hfb := orderF_bd (x := x) (by omega)
  have HBO : Hid (∀ W, Below w.heap.size w W → Calls Tryz.prog 16 #[.agg #[.int .i64 x.size, .slice A x.wins.length c]] W fun e w' => ∃ v', e = .returned v' ∧ Fr w' W.heap.size w'.heap.size v' (orderL x) ∧ Below W.heap.size W w') := fun W hW => implBestOrder_any _ x W (HIT.out.below hW) HOK.out
  have HFW : Hid (∀ W, Below w.heap.size w W → Calls Tryz.prog 17 #[.agg #[.int .i64 x.size, .slice A x.wins.length c]] W fun e w' => e = .returned (.int .i64 (orderF x)) ∧ Below W.heap.size W w') := fun W hW => implFewest_any _ x W (HIT.out.below hW) HOK.out
  obtain ⟨F, HF⟩ : ∃ F, Hid (orderF x = F) := ⟨_, rfl⟩
  rw [HF.out] at HX hfb HFW
  have hl2 := Lib.itoa_length_le F (by omega) (by omega)
  obtain ⟨T1, HT1⟩ : ∃ T1, Hid (fmtF (orderL x) = T1) := ⟨_, rfl⟩
  obtain ⟨T2, HT2⟩ : ∃ T2, Hid (Lib.itoa F = T2) := ⟨_, rfl⟩
  rw [HT1.out] at HX g1
  rw [HT2.out] at HX hl2
  have HCAT := Lib.hid (orderCat T1 T2)
  have n1 : ¬ 9223372036854775807 < T1.length + 1 := by omega
  have n2 : ¬ 9223372036854775807 < T1.length + 1 + T2.length := by omega
  clear h1 t1 t2 t3
  go_enter Tryz.func15, Tryz.ntmps15
  go_wp2_with (go_at_call 30; refine (HTO.out _ HBX.out.2.1).mono ?_; rintro e w1 ⟨rfl, hb⟩; rw [HOK.out]; have H1 : Hid (Bx w1 w.heap.size (.int .i64 x.size) (.slice A x.wins.length c) ∧ Below w.heap.size w w1) := ⟨HBX.out.1.below hb, HBX.out.2.1.trans (hb.mono (Nat.le_of_lt HBX.out.2.2))⟩; clear hb)
  obtain ⟨q0, q1, -⟩ := id H1.out.1
  have H1B : Hid (Below w.heap.size w w1.drew) := below_drewL H1.out.2
  have H1X : Hid (Bx w1.drew w.heap.size (.int .i64 x.size) (.slice A x.wins.length c)) := H1.out.1.drew
  go_region_held3 (fun W => W.cell? ⟨w.heap.size, 0, none⟩ = some (.int .i64 x.size) ∧ W.cell? ⟨w.heap.size, 1, none⟩ = some (.slice A x.wins.length c)) (first | exact ⟨q0, q1⟩ | exact ⟨H5.out.1.1, H5.out.1.2.1⟩ | exact ⟨H4.out.1.1, H4.out.1.2.1⟩ | exact ⟨H3.out.1.1, H3.out.1.2.1⟩ | exact ⟨H2.out.1.1, H2.out.1.2.1⟩) (first
    | (go_at_call 16; refine (HBO.out _ H1B.out).mono ?_; rintro e w2 ⟨v2, rfl, hf, hb⟩; have H2 : Hid (Bx w2 w.heap.size (.int .i64 x.size) (.slice A x.wins.length c) ∧ Below w.heap.size w w2 ∧ InI w2 v2 (orderL x)) := (show _ ∧ _ from ⟨H1X.out.below hb, H1B.out.trans (hb.mono H1B.out.size), hf.in_⟩); clear hb hf)
    | (go_at_call 10; refine (implFormatNumbers_any v2 (orderL x) _ H2.out.2.2 (by have := HLL.out; omega) HWF.out (HT.out.below H2.out.2.1 (Nat.le_refl _))).mono ?_; rintro e w3 ⟨rfl, hb⟩; rw [HT1.out]; have H3 : Hid (Bx w3 w.heap.size (.int .i64 x.size) (.slice A x.wins.length c) ∧ Below w.heap.size w w3) := (show _ ∧ _ from ⟨H2.out.1.below hb, H2.out.2.1.trans (hb.mono H2.out.2.1.size)⟩); clear hb)
    | (go_at_call 17; refine (HFW.out _ H3.out.2).mono ?_; rintro e w4 ⟨rfl, hb⟩; have H4 : Hid (Bx w4 w.heap.size (.int .i64 x.size) (.slice A x.wins.length c) ∧ Below w.heap.size w w4) := (show _ ∧ _ from ⟨H3.out.1.below hb, H3.out.2.trans (hb.mono H3.out.2.size)⟩); clear hb)
    | (go_at_call 12; refine (implFormatInt_any F _ (by omega) (by omega) (HT.out.below H4.out.2 (Nat.le_refl _))).mono ?_; rintro e w5 ⟨rfl, hb⟩; rw [HT2.out]; have H5 : Hid (Bx w5 w.heap.size (.int .i64 x.size) (.slice A x.wins.length c) ∧ Below w.heap.size w w5) := (show _ ∧ _ from ⟨H4.out.1.below hb, H4.out.2.trans (hb.mono H4.out.2.size)⟩); clear hb))
  go_wp2
  go_ret
  exact ⟨by rw [HX.out, ← HCAT.out]; rfl, H5.out.2⟩
end Go.Proofs.YtofpaekokmkhgaaGreatDoor
