/- The line of kings: both packages' contracts. -/
import Derived.Test.YtoppjohbmalhnaaDoorBns
import Derived.Test.YtoppjohbmalhnaaDoorFz
import Derived.Test.YtoppjohbmalhnaaDoorBox
namespace Go.Proofs.YtoppjohbmalhnaaDoor
open Go.ChangeShapes Go.WideShapes Go.ChangeAt Go.RowKit

def kiW : List UInt8 := [107, 105, 110, 103, 115]
def baW : List UInt8 := [98, 97, 110, 107, 115]
def kingTextT (a b : List UInt8) : List UInt8 := Lib.join [kiW, a, baW, b] [32]
def kingText (x : TourV) : List UInt8 := if tourB x then kingTextT (fmtF (memL (kingsF x))) (fmtF (memL (banksF x))) else [110, 111, 110, 101]
theorem kingText_t {x : TourV} (h : tourB x = true) : kingText x = kingTextT (fmtF (memL (kingsF x))) (fmtF (memL (banksF x))) := by rw [kingText, if_pos h]
theorem kingText_f {x : TourV} (h : tourB x = false) : kingText x = [110, 111, 110, 101] := by rw [kingText, h]; rfl
theorem join4k (a b c d : List UInt8) : Lib.join [a, b, c, d] [32] = a ++ [32] ++ b ++ [32] ++ c ++ [32] ++ d := by
  simp [Lib.join_cons, Lib.joinTail, List.append_assoc]
theorem kingCat (a b : List UInt8) : (((⟨#[107, 105, 110, 103, 115, 32]⟩ : ByteArray) ++ ⟨a.toArray⟩) ++ ⟨#[32, 98, 97, 110, 107, 115, 32]⟩) ++ ⟨b.toArray⟩ = ⟨(kingTextT a b).toArray⟩ := by
  rw [show (⟨#[107, 105, 110, 103, 115, 32]⟩ : ByteArray) = ⟨([107, 105, 110, 103, 115, 32] : List UInt8).toArray⟩ from rfl, show (⟨#[32, 98, 97, 110, 107, 115, 32]⟩ : ByteArray) = ⟨([32, 98, 97, 110, 107, 115, 32] : List UInt8).toArray⟩ from rfl, bcat, bcat, bcat, kingTextT, join4k]
  simp [kiW, baW]
theorem memK_wf (s : Nat) : wfI (memL s) := by
  intro x hx
  obtain ⟨a, rfl, h, _⟩ := memT_mem.1 hx
  omega
theorem memK_fmt (s : Nat) : (fmtF (memL s)).length ≤ 200 := by
  have h := memK_wf s
  have hl := memL_len s
  have hc := cntL_le s
  unfold fmtF
  split
  · simp
  · have := fmt_bound h; omega
theorem kings_256 {x : TourV} (h : x.wins.length ≤ 8) : kingsF x < 256 := Nat.lt_of_lt_of_le (kgT_lt x _) (Nat.pow_le_pow_right (by omega) h)
theorem banks_256 {x : TourV} (h : x.wins.length ≤ 8) : banksF x < 256 := Nat.lt_of_lt_of_le (bkT_lt h _ (Nat.le_refl _)) (Nat.pow_le_pow_right (by omega) h)

theorem join4k_any (w : World) (T1 T2 : List UInt8) (h1 : T1.length ≤ 200) (h2 : T2.length ≤ 200) :
    Calls Tryd.prog 17 #[.slice (some ⟨w.heap.size, 0, none⟩) 4 4, .string ⟨#[32]⟩] (w.alloc (.cells #[.string ⟨#[107, 105, 110, 103, 115]⟩, .string ⟨T1.toArray⟩, .string ⟨#[98, 97, 110, 107, 115]⟩, .string ⟨T2.toArray⟩] 9)) fun e w' => e = .returned (.string ⟨(kingTextT T1 T2).toArray⟩) ∧ Below w.heap.size w w' := by
  have ho := World.ownsRow_lit (base := w.heap.size) (e := 9) (size := 1) w #[.string ⟨kiW.toArray⟩, .string ⟨T1.toArray⟩, .string ⟨baW.toArray⟩, .string ⟨T2.toArray⟩] 4 (Nat.le_refl _) (by unfold maxLen; omega) rfl
  have h := implJoin_any _ w.heap.size 4 [kiW, T1, baW, T2] [32] _ ho (by omega) (by omega) (by rw [join4k]; simp [kiW, baW]; omega)
  exact h.mono fun e w' ⟨he, hb⟩ => ⟨he, ((Below.refl _ w).alloc (Nat.le_refl _) _).trans (hb.mono (by simp))⟩
set_option maxHeartbeats 4000000 in
set_option maxRecDepth 100000 in
theorem implKingLine_any (v : Value) (x : TourV) (w : World) (hs : InT w v x) (ht : tabP w) :
    Calls Tryd.prog 7 #[v] w fun e w' => e = .returned (.string ⟨(kingText x).toArray⟩) ∧ Below w.heap.size w w' := by
  have HIT := Lib.hid hs
  have HT := Lib.hid ht
  obtain ⟨u, rfl, A, c, rfl, hc, hm, hsl⟩ := hs
  have HTO : Hid (∀ W, Below w.heap.size w W → Calls Tryd.prog 16 #[.agg #[.int .i64 x.size, .slice A x.wins.length c]] W fun e w' => e = .returned (.bool (tourB x)) ∧ Below W.heap.size W w') := fun W hW => implTourOk_any _ x W (HIT.out.below hW)
  have HBX : Hid (Bx (w.alloc (.cells #[.int .i64 x.size, .slice A x.wins.length c] 27)) w.heap.size (.int .i64 x.size) (.slice A x.wins.length c) ∧ Below w.heap.size w (w.alloc (.cells #[.int .i64 x.size, .slice A x.wins.length c] 27)) ∧ w.heap.size < (w.alloc (.cells #[.int .i64 x.size, .slice A x.wins.length c] 27)).heap.size) := ⟨⟨by simp, by simp, by simp⟩, (Below.refl _ w).alloc (Nat.le_refl _) _, by simp⟩
  clear hsl
  cases h1 : tourB x
  case false =>
    have HX : Hid (kingText x = [110, 111, 110, 101]) := kingText_f h1
    go_enter Tryd.func7, Tryd.ntmps7
    go_wp2_with (go_at_call 16; refine (HTO.out _ HBX.out.2.1).mono ?_; rintro e w1 ⟨rfl, hb⟩; rw [h1]; have HB : Hid (Below w.heap.size w w1) := HBX.out.2.1.trans (hb.mono HBX.out.2.1.size); clear hb)
    go_ret
    exact ⟨by rw [HX.out]; rfl, HB.out⟩
  obtain ⟨t1, t2, t3, _, _⟩ := tourB_t h1
  have hn8 : x.wins.length ≤ 8 := by omega
  have HX := Lib.hid (kingText_t h1)
  have HOK := Lib.hid h1
  have HKI : Hid (∀ W, Below w.heap.size w W → Calls Tryd.prog 20 #[.agg #[.int .i64 x.size, .slice A x.wins.length c]] W fun e w' => e = .returned (.int .i64 (kingsF x : Nat)) ∧ Below W.heap.size W w') := fun W hW => implKingsOf_any _ x W (HIT.out.below hW) HOK.out
  have HBK : Hid (∀ W, Below w.heap.size w W → Calls Tryd.prog 21 #[.agg #[.int .i64 x.size, .slice A x.wins.length c]] W fun e w' => e = .returned (.int .i64 (banksF x : Nat)) ∧ Below W.heap.size W w') := fun W hW => implBanks_any _ x W (HIT.out.below hW) HOK.out
  have k256 := kings_256 hn8
  have b256 := banks_256 hn8
  obtain ⟨KS, HKS⟩ : ∃ KS : Nat, Hid (kingsF x = KS) := ⟨_, rfl⟩
  obtain ⟨BS, HBS⟩ : ∃ BS : Nat, Hid (banksF x = BS) := ⟨_, rfl⟩
  rw [HKS.out] at HX HKI k256
  rw [HBS.out] at HX HBK b256
  have HLK : Hid (∀ W, Calls Tryd.prog 19 #[.int .i64 (KS : Int)] W fun e w' => ∃ v', e = .returned v' ∧ Fr w' W.heap.size w'.heap.size v' (memL KS) ∧ Below W.heap.size W w') := fun W => membersOf_any KS W k256
  have HLB : Hid (∀ W, Calls Tryd.prog 19 #[.int .i64 (BS : Int)] W fun e w' => ∃ v', e = .returned v' ∧ Fr w' W.heap.size w'.heap.size v' (memL BS) ∧ Below W.heap.size W w') := fun W => membersOf_any BS W b256
  have HFK : Hid (∀ W (u : Value), InI W u (memL KS) → Below w.heap.size w W → Calls Tryd.prog 18 #[u] W fun e w' => e = .returned (.string ⟨(fmtF (memL KS)).toArray⟩) ∧ Below W.heap.size W w') := fun W u hu hW => implFormatNumbers_any u (memL KS) W hu (by have := memL_len KS; have := cntL_le KS; omega) (memK_wf KS) (HT.out.below hW (Nat.le_refl _))
  have HFB : Hid (∀ W (u : Value), InI W u (memL BS) → Below w.heap.size w W → Calls Tryd.prog 18 #[u] W fun e w' => e = .returned (.string ⟨(fmtF (memL BS)).toArray⟩) ∧ Below W.heap.size W w') := fun W u hu hW => implFormatNumbers_any u (memL BS) W hu (by have := memL_len BS; have := cntL_le BS; omega) (memK_wf BS) (HT.out.below hW (Nat.le_refl _))
  have g1 := memK_fmt KS
  have g2 := memK_fmt BS
  obtain ⟨T1, HT1⟩ : ∃ T1, Hid (fmtF (memL KS) = T1) := ⟨_, rfl⟩
  obtain ⟨T2, HT2⟩ : ∃ T2, Hid (fmtF (memL BS) = T2) := ⟨_, rfl⟩
  rw [HT1.out] at HX g1 HFK
  rw [HT2.out] at HX g2 HFB
  have HCAT := Lib.hid (kingCat T1 T2)
  have HGG : Hid (T1.length ≤ 200 ∧ T2.length ≤ 200) := ⟨g1, g2⟩
  clear h1 t1 t2 t3
  go_enter Tryd.func7, Tryd.ntmps7
  go_wp2_with (go_at_call 16; refine (HTO.out _ HBX.out.2.1).mono ?_; rintro e w1 ⟨rfl, hb⟩; rw [HOK.out]; have H1 : Hid (Bx w1 w.heap.size (.int .i64 x.size) (.slice A x.wins.length c) ∧ Below w.heap.size w w1) := ⟨HBX.out.1.below hb, HBX.out.2.1.trans (hb.mono (Nat.le_of_lt HBX.out.2.2))⟩; clear hb)
  obtain ⟨q0, q1, -⟩ := id H1.out.1
  have H1B : Hid (Below w.heap.size w w1.drew) := below_drewL H1.out.2
  have H1X : Hid (Bx w1.drew w.heap.size (.int .i64 x.size) (.slice A x.wins.length c)) := H1.out.1.drew
  go_region_held3 (fun W => W.cell? ⟨w.heap.size, 0, none⟩ = some (.int .i64 x.size) ∧ W.cell? ⟨w.heap.size, 1, none⟩ = some (.slice A x.wins.length c)) (first | exact ⟨q0, q1⟩ | exact ⟨H8.out.1.1, H8.out.1.2.1⟩ | exact ⟨(H7.out.1.below ((Below.refl _ w7).alloc (Nat.le_refl _) _)).1, (H7.out.1.below ((Below.refl _ w7).alloc (Nat.le_refl _) _)).2.1⟩ | exact ⟨H7.out.1.1, H7.out.1.2.1⟩ | exact ⟨H6.out.1.1, H6.out.1.2.1⟩ | exact ⟨H5.out.1.1, H5.out.1.2.1⟩ | exact ⟨H4.out.1.1, H4.out.1.2.1⟩ | exact ⟨H3.out.1.1, H3.out.1.2.1⟩ | exact ⟨H2.out.1.1, H2.out.1.2.1⟩) (first
    | (go_at_call 20; refine (HKI.out _ H1B.out).mono ?_; rintro e w2 ⟨rfl, hb⟩; have H2 : Hid (Bx w2 w.heap.size (.int .i64 x.size) (.slice A x.wins.length c) ∧ Below w.heap.size w w2) := (show _ ∧ _ from ⟨H1X.out.below hb, H1B.out.trans (hb.mono H1B.out.size)⟩); clear hb)
    | (go_at_call 19; have h_ := H2.out; clear h_; (with_reducible refine (HLK.out _).mono ?_); rintro e w3 ⟨v3, rfl, hf, hb⟩; have H3 : Hid (Bx w3 w.heap.size (.int .i64 x.size) (.slice A x.wins.length c) ∧ Below w.heap.size w w3) := (show _ ∧ _ from ⟨H2.out.1.below hb, H2.out.2.trans (hb.mono H2.out.2.size)⟩); have H3I : Hid (InI w3 v3 (memL KS)) := hf.in_; clear hb hf)
    | (go_at_call 18; have h_ := H3.out; clear h_; (with_reducible refine (HFK.out _ v3 H3I.out H3.out.2).mono ?_); rintro e w4 ⟨rfl, hb⟩; have H4 : Hid (Bx w4 w.heap.size (.int .i64 x.size) (.slice A x.wins.length c) ∧ Below w.heap.size w w4) := (show _ ∧ _ from ⟨H3.out.1.below hb, H3.out.2.trans (hb.mono H3.out.2.size)⟩); clear hb)
    | (go_at_call 21; refine (HBK.out _ H4.out.2).mono ?_; rintro e w5 ⟨rfl, hb⟩; have H5 : Hid (Bx w5 w.heap.size (.int .i64 x.size) (.slice A x.wins.length c) ∧ Below w.heap.size w w5) := (show _ ∧ _ from ⟨H4.out.1.below hb, H4.out.2.trans (hb.mono H4.out.2.size)⟩); clear hb)
    | (go_at_call 19; have h_ := H5.out; clear h_; (with_reducible refine (HLB.out _).mono ?_); rintro e w6 ⟨v6, rfl, hf, hb⟩; have H6 : Hid (Bx w6 w.heap.size (.int .i64 x.size) (.slice A x.wins.length c) ∧ Below w.heap.size w w6) := (show _ ∧ _ from ⟨H5.out.1.below hb, H5.out.2.trans (hb.mono H5.out.2.size)⟩); have H6I : Hid (InI w6 v6 (memL BS)) := hf.in_; clear hb hf)
    | (go_at_call 18; have h_ := H6.out; clear h_; (with_reducible refine (HFB.out _ v6 H6I.out H6.out.2).mono ?_); rintro e w7 ⟨rfl, hb⟩; have H7 : Hid (Bx w7 w.heap.size (.int .i64 x.size) (.slice A x.wins.length c) ∧ Below w.heap.size w w7) := (show _ ∧ _ from ⟨H6.out.1.below hb, H6.out.2.trans (hb.mono H6.out.2.size)⟩); clear hb)
    | (go_at_call 17; refine (join4k_any w7 T1 T2 HGG.out.1 HGG.out.2).mono ?_; rintro e w8 ⟨rfl, hb⟩; have H8 : Hid (Bx w8 w.heap.size (.int .i64 x.size) (.slice A x.wins.length c) ∧ Below w.heap.size w w8) := (show _ ∧ _ from ⟨H7.out.1.below hb, H7.out.2.trans (hb.mono H7.out.2.size)⟩); clear hb))
  go_wp2
  go_ret
  exact ⟨by rw [HX.out]; rfl, H8.out.2⟩

set_option maxHeartbeats 4000000 in
set_option maxRecDepth 100000 in
theorem specKingLine_any (v : Value) (x : TourV) (w : World) (hs : InT w v x) :
    Calls Tryd.prog 5 #[v] w fun e w' => e = .returned (.string ⟨(kingText x).toArray⟩) ∧ Below w.heap.size w w' := by
  have HIT := Lib.hid hs
  skip
  obtain ⟨u, rfl, A, c, rfl, hc, hm, hsl⟩ := hs
  have HTO : Hid (∀ W, Below w.heap.size w W → Calls Tryd.prog 10 #[.agg #[.int .i64 x.size, .slice A x.wins.length c]] W fun e w' => e = .returned (.bool (tourB x)) ∧ Below W.heap.size W w') := fun W hW => specTourOk_any _ x W (HIT.out.below hW)
  have HBX : Hid (Bx (w.alloc (.cells #[.int .i64 x.size, .slice A x.wins.length c] 27)) w.heap.size (.int .i64 x.size) (.slice A x.wins.length c) ∧ Below w.heap.size w (w.alloc (.cells #[.int .i64 x.size, .slice A x.wins.length c] 27)) ∧ w.heap.size < (w.alloc (.cells #[.int .i64 x.size, .slice A x.wins.length c] 27)).heap.size) := ⟨⟨by simp, by simp, by simp⟩, (Below.refl _ w).alloc (Nat.le_refl _) _, by simp⟩
  clear hsl
  cases h1 : tourB x
  case false =>
    have HX : Hid (kingText x = [110, 111, 110, 101]) := kingText_f h1
    go_enter Tryd.func5, Tryd.ntmps5
    go_wp2_with (go_at_call 10; refine (HTO.out _ HBX.out.2.1).mono ?_; rintro e w1 ⟨rfl, hb⟩; rw [h1]; have HB : Hid (Below w.heap.size w w1) := HBX.out.2.1.trans (hb.mono HBX.out.2.1.size); clear hb)
    go_ret
    exact ⟨by rw [HX.out]; rfl, HB.out⟩
  obtain ⟨t1, t2, t3, _, _⟩ := tourB_t h1
  have hn8 : x.wins.length ≤ 8 := by omega
  have HX := Lib.hid (kingText_t h1)
  have HOK := Lib.hid h1
  have HKI : Hid (∀ W, Below w.heap.size w W → Calls Tryd.prog 13 #[.agg #[.int .i64 x.size, .slice A x.wins.length c]] W fun e w' => e = .returned (.int .i64 (kingsF x : Nat)) ∧ Below W.heap.size W w') := fun W hW => specKings_any _ x W (HIT.out.below hW) HOK.out
  have HBK : Hid (∀ W, Below w.heap.size w W → Calls Tryd.prog 14 #[.agg #[.int .i64 x.size, .slice A x.wins.length c]] W fun e w' => e = .returned (.int .i64 (banksF x : Nat)) ∧ Below W.heap.size W w') := fun W hW => specBanks_any _ x W (HIT.out.below hW) HOK.out
  have k256 := kings_256 hn8
  have b256 := banks_256 hn8
  obtain ⟨KS, HKS⟩ : ∃ KS : Nat, Hid (kingsF x = KS) := ⟨_, rfl⟩
  obtain ⟨BS, HBS⟩ : ∃ BS : Nat, Hid (banksF x = BS) := ⟨_, rfl⟩
  rw [HKS.out] at HX HKI k256
  rw [HBS.out] at HX HBK b256
  have HLK : Hid (∀ W, Calls Tryd.prog 12 #[.int .i64 (KS : Int)] W fun e w' => ∃ v', e = .returned v' ∧ Fr w' W.heap.size w'.heap.size v' (memL KS) ∧ Below W.heap.size W w') := fun W => l02List_any KS W k256
  have HLB : Hid (∀ W, Calls Tryd.prog 12 #[.int .i64 (BS : Int)] W fun e w' => ∃ v', e = .returned v' ∧ Fr w' W.heap.size w'.heap.size v' (memL BS) ∧ Below W.heap.size W w') := fun W => l02List_any BS W b256
  have HFK : Hid (∀ W (u : Value), InI W u (memL KS) → Calls Tryd.prog 11 #[u] W fun e w' => e = .returned (.string ⟨(fmtF (memL KS)).toArray⟩) ∧ Below W.heap.size W w') := fun W u hu => specFormatNumbers_any u (memL KS) W hu (by have := memL_len KS; have := cntL_le KS; omega) (memK_wf KS)
  have HFB : Hid (∀ W (u : Value), InI W u (memL BS) → Calls Tryd.prog 11 #[u] W fun e w' => e = .returned (.string ⟨(fmtF (memL BS)).toArray⟩) ∧ Below W.heap.size W w') := fun W u hu => specFormatNumbers_any u (memL BS) W hu (by have := memL_len BS; have := cntL_le BS; omega) (memK_wf BS)
  have g1 := memK_fmt KS
  have g2 := memK_fmt BS
  obtain ⟨T1, HT1⟩ : ∃ T1, Hid (fmtF (memL KS) = T1) := ⟨_, rfl⟩
  obtain ⟨T2, HT2⟩ : ∃ T2, Hid (fmtF (memL BS) = T2) := ⟨_, rfl⟩
  rw [HT1.out] at HX g1 HFK
  rw [HT2.out] at HX g2 HFB
  have HCAT := Lib.hid (kingCat T1 T2)
  have HGG : Hid (T1.length ≤ 200 ∧ T2.length ≤ 200) := ⟨g1, g2⟩
  have n2 : ¬ 9223372036854775807 < 6 + T1.length := by omega
  have n3 : ¬ 9223372036854775807 < 6 + T1.length + 7 := by omega
  have n4 : ¬ 9223372036854775807 < 6 + T1.length + 7 + T2.length := by omega
  clear h1 t1 t2 t3
  go_enter Tryd.func5, Tryd.ntmps5
  go_wp2_with (go_at_call 10; refine (HTO.out _ HBX.out.2.1).mono ?_; rintro e w1 ⟨rfl, hb⟩; rw [HOK.out]; have H1 : Hid (Bx w1 w.heap.size (.int .i64 x.size) (.slice A x.wins.length c) ∧ Below w.heap.size w w1) := ⟨HBX.out.1.below hb, HBX.out.2.1.trans (hb.mono (Nat.le_of_lt HBX.out.2.2))⟩; clear hb)
  obtain ⟨q0, q1, -⟩ := id H1.out.1
  have H1B : Hid (Below w.heap.size w w1.drew) := below_drewL H1.out.2
  have H1X : Hid (Bx w1.drew w.heap.size (.int .i64 x.size) (.slice A x.wins.length c)) := H1.out.1.drew
  go_region_held3 (fun W => W.cell? ⟨w.heap.size, 0, none⟩ = some (.int .i64 x.size) ∧ W.cell? ⟨w.heap.size, 1, none⟩ = some (.slice A x.wins.length c)) (first | exact ⟨q0, q1⟩ | exact ⟨H7.out.1.1, H7.out.1.2.1⟩ | exact ⟨H6.out.1.1, H6.out.1.2.1⟩ | exact ⟨H5.out.1.1, H5.out.1.2.1⟩ | exact ⟨H4.out.1.1, H4.out.1.2.1⟩ | exact ⟨H3.out.1.1, H3.out.1.2.1⟩ | exact ⟨H2.out.1.1, H2.out.1.2.1⟩) (first
    | (go_at_call 13; refine (HKI.out _ H1B.out).mono ?_; rintro e w2 ⟨rfl, hb⟩; have H2 : Hid (Bx w2 w.heap.size (.int .i64 x.size) (.slice A x.wins.length c) ∧ Below w.heap.size w w2) := (show _ ∧ _ from ⟨H1X.out.below hb, H1B.out.trans (hb.mono H1B.out.size)⟩); clear hb)
    | (go_at_call 12; have h_ := H2.out; clear h_; (with_reducible refine (HLK.out _).mono ?_); rintro e w3 ⟨v3, rfl, hf, hb⟩; have H3 : Hid (Bx w3 w.heap.size (.int .i64 x.size) (.slice A x.wins.length c) ∧ Below w.heap.size w w3) := (show _ ∧ _ from ⟨H2.out.1.below hb, H2.out.2.trans (hb.mono H2.out.2.size)⟩); have H3I : Hid (InI w3 v3 (memL KS)) := hf.in_; clear hb hf)
    | (go_at_call 11; have h_ := H3.out; clear h_; (with_reducible refine (HFK.out _ v3 H3I.out).mono ?_); rintro e w4 ⟨rfl, hb⟩; have H4 : Hid (Bx w4 w.heap.size (.int .i64 x.size) (.slice A x.wins.length c) ∧ Below w.heap.size w w4) := (show _ ∧ _ from ⟨H3.out.1.below hb, H3.out.2.trans (hb.mono H3.out.2.size)⟩); clear hb)
    | (go_at_call 14; refine (HBK.out _ H4.out.2).mono ?_; rintro e w5 ⟨rfl, hb⟩; have H5 : Hid (Bx w5 w.heap.size (.int .i64 x.size) (.slice A x.wins.length c) ∧ Below w.heap.size w w5) := (show _ ∧ _ from ⟨H4.out.1.below hb, H4.out.2.trans (hb.mono H4.out.2.size)⟩); clear hb)
    | (go_at_call 12; have h_ := H5.out; clear h_; (with_reducible refine (HLB.out _).mono ?_); rintro e w6 ⟨v6, rfl, hf, hb⟩; have H6 : Hid (Bx w6 w.heap.size (.int .i64 x.size) (.slice A x.wins.length c) ∧ Below w.heap.size w w6) := (show _ ∧ _ from ⟨H5.out.1.below hb, H5.out.2.trans (hb.mono H5.out.2.size)⟩); have H6I : Hid (InI w6 v6 (memL BS)) := hf.in_; clear hb hf)
    | (go_at_call 11; have h_ := H6.out; clear h_; (with_reducible refine (HFB.out _ v6 H6I.out).mono ?_); rintro e w7 ⟨rfl, hb⟩; have H7 : Hid (Bx w7 w.heap.size (.int .i64 x.size) (.slice A x.wins.length c) ∧ Below w.heap.size w w7) := (show _ ∧ _ from ⟨H6.out.1.below hb, H6.out.2.trans (hb.mono H6.out.2.size)⟩); clear hb))
  go_wp2
  go_ret
  exact ⟨by rw [HX.out, ← HCAT.out]; rfl, H7.out.2⟩

theorem implKingLine_std (v : Value) (x : TourV) (w : World) (hs : InT w v x) (_hn : x.wins.length ≤ 1048576) (ht : tabP w) :
    Calls Tryd.prog 7 #[v] w fun e w' => e = .returned (.string ⟨(kingText x).toArray⟩) ∧ Below w.heap.size w w' := implKingLine_any v x w hs ht
theorem specKingLine_std (v : Value) (x : TourV) (w : World) (hs : InT w v x) (_hn : x.wins.length ≤ 1048576) :
    Calls Tryd.prog 5 #[v] w fun e w' => e = .returned (.string ⟨(kingText x).toArray⟩) ∧ Below w.heap.size w w' := specKingLine_any v x w hs
end Go.Proofs.YtoppjohbmalhnaaDoor
