/- The walks of the exact laws over slices (longest common). -/
import Derived.Test.YtlonfaclncnhdaaCommon
namespace Go.Proofs.Ytlonfaclncnhdaa
open Go.ChangeShapes Go.WideShapes Go.ChangeAt Go.RowKit

set_option maxHeartbeats 1000000 in
theorem lawFnExactLongestCommon (v0 : Value) (x0 : List Int) (v1 : Value) (x1 : List Int) (w : World) (h0 : InI w v0 x0) (h1 : InI w v1 x1) :
    Calls Try.prog 9 #[v0, v1] w fun e w' => e = .returned (.bool true) ∧ Below w.heap.size w w' := by
  have H0 := Lib.hid h0
  obtain ⟨A0, c0, rfl, hc0, hm0, -⟩ := h0
  have h0 := H0.out; clear H0; unfold maxLen at hm0
  have H1 := Lib.hid h1
  obtain ⟨A1, c1, rfl, hc1, hm1, -⟩ := h1
  have h1 := H1.out; clear H1; unfold maxLen at hm1
  by_cases n0 : x0.length ≤ 1048576
  case neg =>
    go_enter Try.func9, Try.ntmps9
    go_wp2
    go_ret
    exact ⟨rfl, Below.refl _ _⟩
  by_cases n1 : x1.length ≤ 1048576
  case neg =>
    go_enter Try.func9, Try.ntmps9
    go_wp2
    go_ret
    exact ⟨rfl, Below.refl _ _⟩
  have B := Below.refl w.heap.size w
  go_enter Try.func9, Try.ntmps9
  go_wp2_with fail
  refine (toIntS_std _ x0 _ (h0.below B) n0).mono ?_
  rintro e w1 ⟨u24, rfl, f24, b⟩
  have z := b.size
  replace B := B.trans (b.mono B.size)
  clear b
  go_wp2_with fail
  refine (toIntS_std _ x1 _ (h1.below B) n1).mono ?_
  rintro e w2 ⟨u30, rfl, f30, b⟩
  replace f24 := f24.grow b
  have z := b.size
  replace B := B.trans (b.mono B.size)
  clear b
  go_wp2_with fail
  refine (specLongestCommon_std _ x0 _ x1 _ f24.in_ n0 f30.in_ n1).mono ?_
  rintro e w3 ⟨rfl, b⟩
  replace f24 := f24.grow b
  replace f30 := f30.grow b
  have z := b.size
  replace B := B.trans (b.mono B.size)
  clear b
  clear f24
  clear f30
  go_wp2_with fail
  refine (toIntS_std _ x0 _ (h0.below B) n0).mono ?_
  rintro e w4 ⟨u47, rfl, f47, b⟩
  have z := b.size
  replace B := B.trans (b.mono B.size)
  clear b
  go_wp2_with fail
  refine (toIntS_std _ x1 _ (h1.below B) n1).mono ?_
  rintro e w5 ⟨u53, rfl, f53, b⟩
  replace f47 := f47.grow b
  have z := b.size
  replace B := B.trans (b.mono B.size)
  clear b
  go_wp2_with fail
  refine (implLongestCommon_std _ x0 _ x1 _ f47.in_ n0 f53.in_ n1).mono ?_
  rintro e w6 ⟨rfl, b⟩
  replace f47 := f47.grow b
  replace f53 := f53.grow b
  have z := b.size
  replace B := B.trans (b.mono B.size)
  clear b
  go_wp2_with fail
  refine (toIntS_std _ x0 _ (h0.below B) n0).mono ?_
  rintro e w7 ⟨u68, rfl, f68, b⟩
  replace f47 := f47.grow b
  replace f53 := f53.grow b
  have z := b.size
  replace B := B.trans (b.mono B.size)
  clear b
  go_wp2_with fail
  refine (eqIntS_std _ _ _ _ f47.in_ f68.in_ n0).mono ?_
  rintro e w8 ⟨rfl, b⟩
  replace f47 := f47.grow b
  replace f53 := f53.grow b
  replace f68 := f68.grow b
  have z := b.size
  replace B := B.trans (b.mono B.size)
  clear b
  clear f68
  go_wp2_with fail
  refine (toIntS_std _ x1 _ (h1.below B) n1).mono ?_
  rintro e w9 ⟨u86, rfl, f86, b⟩
  replace f47 := f47.grow b
  replace f53 := f53.grow b
  have z := b.size
  replace B := B.trans (b.mono B.size)
  clear b
  go_wp2_with fail
  refine (eqIntS_std _ _ _ _ f53.in_ f86.in_ n1).mono ?_
  rintro e w10 ⟨rfl, b⟩
  replace f47 := f47.grow b
  replace f53 := f53.grow b
  replace f86 := f86.grow b
  have z := b.size
  replace B := B.trans (b.mono B.size)
  clear b
  clear f86
  go_wp2
  go_ret
  exact ⟨rfl, B⟩

set_option maxHeartbeats 1000000 in
theorem lawFnExactLeastMoves (v0 : Value) (x0 : List Int) (v1 : Value) (x1 : List Int) (w : World) (h0 : InI w v0 x0) (h1 : InI w v1 x1) :
    Calls Try.prog 8 #[v0, v1] w fun e w' => e = .returned (.bool true) ∧ Below w.heap.size w w' := by
  have H0 := Lib.hid h0
  obtain ⟨A0, c0, rfl, hc0, hm0, -⟩ := h0
  have h0 := H0.out; clear H0; unfold maxLen at hm0
  have H1 := Lib.hid h1
  obtain ⟨A1, c1, rfl, hc1, hm1, -⟩ := h1
  have h1 := H1.out; clear H1; unfold maxLen at hm1
  by_cases n0 : x0.length ≤ 1048576
  case neg =>
    go_enter Try.func8, Try.ntmps8
    go_wp2
    go_ret
    exact ⟨rfl, Below.refl _ _⟩
  by_cases n1 : x1.length ≤ 1048576
  case neg =>
    go_enter Try.func8, Try.ntmps8
    go_wp2
    go_ret
    exact ⟨rfl, Below.refl _ _⟩
  have B := Below.refl w.heap.size w
  go_enter Try.func8, Try.ntmps8
  go_wp2_with fail
  refine (toIntS_std _ x0 _ (h0.below B) n0).mono ?_
  rintro e w1 ⟨u24, rfl, f24, b⟩
  have z := b.size
  replace B := B.trans (b.mono B.size)
  clear b
  go_wp2_with fail
  refine (toIntS_std _ x1 _ (h1.below B) n1).mono ?_
  rintro e w2 ⟨u30, rfl, f30, b⟩
  replace f24 := f24.grow b
  have z := b.size
  replace B := B.trans (b.mono B.size)
  clear b
  go_wp2_with fail
  refine (specLeastMoves_std _ x0 _ x1 _ f24.in_ n0 f30.in_ n1).mono ?_
  rintro e w3 ⟨rfl, b⟩
  replace f24 := f24.grow b
  replace f30 := f30.grow b
  have z := b.size
  replace B := B.trans (b.mono B.size)
  clear b
  clear f24
  clear f30
  go_wp2_with fail
  refine (toIntS_std _ x0 _ (h0.below B) n0).mono ?_
  rintro e w4 ⟨u47, rfl, f47, b⟩
  have z := b.size
  replace B := B.trans (b.mono B.size)
  clear b
  go_wp2_with fail
  refine (toIntS_std _ x1 _ (h1.below B) n1).mono ?_
  rintro e w5 ⟨u53, rfl, f53, b⟩
  replace f47 := f47.grow b
  have z := b.size
  replace B := B.trans (b.mono B.size)
  clear b
  go_wp2_with fail
  refine (implLeastMoves_std _ x0 _ x1 _ f47.in_ n0 f53.in_ n1).mono ?_
  rintro e w6 ⟨rfl, b⟩
  replace f47 := f47.grow b
  replace f53 := f53.grow b
  have z := b.size
  replace B := B.trans (b.mono B.size)
  clear b
  go_wp2_with fail
  refine (toIntS_std _ x0 _ (h0.below B) n0).mono ?_
  rintro e w7 ⟨u68, rfl, f68, b⟩
  replace f47 := f47.grow b
  replace f53 := f53.grow b
  have z := b.size
  replace B := B.trans (b.mono B.size)
  clear b
  go_wp2_with fail
  refine (eqIntS_std _ _ _ _ f47.in_ f68.in_ n0).mono ?_
  rintro e w8 ⟨rfl, b⟩
  replace f47 := f47.grow b
  replace f53 := f53.grow b
  replace f68 := f68.grow b
  have z := b.size
  replace B := B.trans (b.mono B.size)
  clear b
  clear f68
  go_wp2_with fail
  refine (toIntS_std _ x1 _ (h1.below B) n1).mono ?_
  rintro e w9 ⟨u86, rfl, f86, b⟩
  replace f47 := f47.grow b
  replace f53 := f53.grow b
  have z := b.size
  replace B := B.trans (b.mono B.size)
  clear b
  go_wp2_with fail
  refine (eqIntS_std _ _ _ _ f53.in_ f86.in_ n1).mono ?_
  rintro e w10 ⟨rfl, b⟩
  replace f47 := f47.grow b
  replace f53 := f53.grow b
  replace f86 := f86.grow b
  have z := b.size
  replace B := B.trans (b.mono B.size)
  clear b
  clear f86
  go_wp2
  go_ret
  exact ⟨rfl, B⟩
end Go.Proofs.Ytlonfaclncnhdaa
