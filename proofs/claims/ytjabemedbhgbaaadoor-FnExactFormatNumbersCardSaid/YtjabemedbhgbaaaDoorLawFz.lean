/- The law FnExactFormatNumbers: its walk. -/
import Derived.Test.YtjabemedbhgbaaaDoorFz
import Derived.Test.YtjabemedbhgbaaaDoorOpen
namespace Go.Proofs.YtjabemedbhgbaaaDoor
open Go.ChangeShapes Go.WideShapes Go.ChangeAt Go.RowKit

theorem wfI_of {xs : List Int} (h : ∀ x ∈ xs, (Lit.int .i64 x).wf = true) : wfI xs := fun x hx => by
  have := h x hx
  simp [Lit.wf] at this
  have e : IntKind.i64.min = -9223372036854775808 := by decide
  rw [e] at this
  exact this

set_option maxHeartbeats 2000000 in
theorem lawFnExactFormatNumbers (v0 : Value) (x0 : List Int) (w : World) (hh0 : InI w v0 x0 ∧ ∀ x ∈ x0, (Lit.int .i64 x).wf = true) (ht : tabP w) :
    Calls Tryd.prog 3 #[v0] w fun e w' => e = .returned (.bool true) ∧ Below w.heap.size w w' := by
  obtain ⟨h0, hw⟩ := hh0
  have HW := Lib.hid (And.intro (wfI_of hw) ht)
  clear hw ht
  have H0 := Lib.hid h0
  obtain ⟨A0, c0, rfl, hc0, hm0, -⟩ := h0
  have h0 := H0.out; clear H0; unfold maxLen at hm0
  by_cases n0 : x0.length ≤ 1048576
  case neg =>
    go_enter Tryd.func3, Tryd.ntmps3
    go_wp2
    go_ret
    exact ⟨rfl, Below.refl _ _⟩
  have B := Below.refl w.heap.size w
  go_enter Tryd.func3, Tryd.ntmps3
  go_wp2_with fail
  refine (toIntS_std _ x0 _ (h0.below B) n0).mono ?_
  rintro e w1 ⟨u1, rfl, f1, b⟩
  replace B := B.trans (b.mono B.size)
  clear b
  go_wp2_with fail
  refine (specFormatNumbers_any _ x0 _ f1.in_ n0 HW.out.1).mono ?_
  rintro e w2 ⟨rfl, b⟩
  replace B := B.trans (b.mono B.size)
  clear b f1
  go_wp2_with fail
  refine (toIntS_std _ x0 _ (h0.below B) n0).mono ?_
  rintro e w3 ⟨u3, rfl, f3, b⟩
  replace B := B.trans (b.mono B.size)
  clear b
  go_wp2_with fail
  refine (implFormatNumbers_any _ x0 _ f3.in_ n0 HW.out.1 (HW.out.2.below B (Nat.le_refl _))).mono ?_
  rintro e w4 ⟨rfl, b⟩
  replace B := B.trans (b.mono B.size)
  replace f3 := f3.grow b
  clear b
  go_wp2_with fail
  refine (toIntS_std _ x0 _ (h0.below B) n0).mono ?_
  rintro e w5 ⟨u5, rfl, f5, b⟩
  replace B := B.trans (b.mono B.size)
  replace f3 := f3.grow b
  clear b
  go_wp2_with fail
  refine (eqIntS_std _ _ x0 _ f3.in_ f5.in_ n0).mono ?_
  rintro e w6 ⟨rfl, b⟩
  replace B := B.trans (b.mono B.size)
  clear b f3 f5
  go_wp2
  go_ret
  exact ⟨rfl, B⟩
end Go.Proofs.YtjabemedbhgbaaaDoor
