/- The walks of the exact laws over slices (races as lines). -/
import Derived.Test.YtnmklpjffjlmkaaDoorRln
import Derived.Test.YtnmklpjffjlmkaaDoorBox
import Derived.Test.YtnmklpjffjlmkaaDoorOpen
namespace Go.Proofs.YtnmklpjffjlmkaaDoor
open Go.ChangeShapes Go.WideShapes Go.ChangeAt Go.RowKit

set_option maxHeartbeats 2000000 in
theorem lawFnExactRaceLine (v0 : Value) (x0 : List Int) (v1 : Value) (x1 : List (List Int)) (w : World) (h0 : InI w v0 x0) (h1 : InS w v1 x1) (ht : tabP w) :
    Calls Tryd.prog 3 #[v0, v1] w fun e w' => e = .returned (.bool true) ∧ Below w.heap.size w w' := by
  have HT := Lib.hid ht
  clear ht
  have H0 := Lib.hid h0
  obtain ⟨A0, c0, rfl, hc0, hm0, -⟩ := h0
  have h0 := H0.out; clear H0; unfold maxLen at hm0
  by_cases n0 : x0.length ≤ 1048576
  case neg =>
    go_enter Tryd.func3, Tryd.ntmps3
    go_wp2
    go_ret
    exact ⟨rfl, Below.refl _ _⟩
  by_cases l1 : ((bulk x1 : Nat) : Int) ≤ (1048576 : Int)
  case neg =>
    have B := Below.refl w.heap.size w
    go_enter Tryd.func3, Tryd.ntmps3
    go_wp2_with fail
    refine (szIntSS_any _ x1 _ _ (h1.below B) (by omega) (by omega)).mono ?_; rintro e w' ⟨rfl, rfl⟩
    rw [szR_neg (by omega)]
    go_wp2
    go_ret
    exact ⟨rfl, B⟩
  have n1 : bulk x1 ≤ 1048576 := by omega
  have n1' : rowsLen x1 ≤ 1048576 := by rw [bulk_eq] at n1; omega
  have B := Below.refl w.heap.size w
  go_enter Tryd.func3, Tryd.ntmps3
  go_wp2_with fail
  refine (szIntSS_any _ x1 _ _ (h1.below B) (by omega) (by omega)).mono ?_; rintro e w' ⟨rfl, rfl⟩
  rw [szR_pos (by omega)]
  go_wp2_with fail
  refine (toIntS_std _ x0 _ (h0.below B) n0).mono ?_
  rintro e w1 ⟨u32, rfl, f32, b⟩
  have z := b.size
  replace B := B.trans (b.mono B.size)
  clear b
  go_wp2_with fail
  refine (toIntSS_std _ x1 _ (h1.below B) n1).mono ?_
  rintro e w2 ⟨u38, rfl, f38, b⟩
  replace f32 := f32.grow b
  have z := b.size
  replace B := B.trans (b.mono B.size)
  clear b
  go_wp2_with fail
  refine (specRaceLine_std _ x0 _ x1 _ f32.in_ n0 f38.in_ n1).mono ?_
  rintro e w3 ⟨rfl, b⟩
  replace f32 := f32.grow b
  replace f38 := f38.grow b
  have z := b.size
  replace B := B.trans (b.mono B.size)
  clear b
  clear f32
  clear f38
  go_wp2_with fail
  refine (toIntS_std _ x0 _ (h0.below B) n0).mono ?_
  rintro e w4 ⟨u55, rfl, f55, b⟩
  have z := b.size
  replace B := B.trans (b.mono B.size)
  clear b
  go_wp2_with fail
  refine (toIntSS_std _ x1 _ (h1.below B) n1).mono ?_
  rintro e w5 ⟨u61, rfl, f61, b⟩
  replace f55 := f55.grow b
  have z := b.size
  replace B := B.trans (b.mono B.size)
  clear b
  go_wp2_with fail
  refine (implRaceLine_std _ x0 _ x1 _ f55.in_ n0 f61.in_ n1 (HT.out.below B (Nat.le_refl _))).mono ?_
  rintro e w6 ⟨rfl, b⟩
  replace f55 := f55.grow b
  replace f61 := f61.grow b
  have z := b.size
  replace B := B.trans (b.mono B.size)
  clear b
  go_wp2_with fail
  refine (toIntS_std _ x0 _ (h0.below B) n0).mono ?_
  rintro e w7 ⟨u76, rfl, f76, b⟩
  replace f55 := f55.grow b
  replace f61 := f61.grow b
  have z := b.size
  replace B := B.trans (b.mono B.size)
  clear b
  go_wp2_with fail
  refine (eqIntS_std _ _ _ _ f55.in_ f76.in_ n0).mono ?_
  rintro e w8 ⟨rfl, b⟩
  replace f55 := f55.grow b
  replace f61 := f61.grow b
  replace f76 := f76.grow b
  have z := b.size
  replace B := B.trans (b.mono B.size)
  clear b
  clear f76
  go_wp2_with fail
  refine (toIntSS_std _ x1 _ (h1.below B) n1).mono ?_
  rintro e w9 ⟨u94, rfl, f94, b⟩
  replace f55 := f55.grow b
  replace f61 := f61.grow b
  have z := b.size
  replace B := B.trans (b.mono B.size)
  clear b
  go_wp2_with fail
  refine (eqIntSS_std _ _ _ _ f61.in_ f94.in_ n1).mono ?_
  rintro e w10 ⟨rfl, b⟩
  replace f55 := f55.grow b
  replace f61 := f61.grow b
  replace f94 := f94.grow b
  have z := b.size
  replace B := B.trans (b.mono B.size)
  clear b
  clear f94
  go_wp2
  go_ret
  exact ⟨rfl, B⟩
end Go.Proofs.YtnmklpjffjlmkaaDoor
