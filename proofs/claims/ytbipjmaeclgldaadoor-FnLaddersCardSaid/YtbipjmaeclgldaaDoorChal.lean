/- Challenges on a ladder: contracts. -/
import Derived.Test.YtbipjmaeclgldaaDoorMai
import Derived.Test.YtbipjmaeclgldaaDoorUp
import Derived.Test.YtbipjmaeclgldaaDoorNum
import Derived.Deep.QuietTactic
import Derived.BigQuiet
import Derived.StillTailTactics
import Derived.Deep.RegionWith
namespace Go.Proofs.YtbipjmaeclgldaaDoor
open Go.ChangeShapes Go.WideShapes Go.ChangeAt Go.RowKit

def mayB (l : List Int) (r a b : Int) : Bool := ladB l && (inB r 1 7 && (decide (0 ≤ plc l a) && (decide (0 ≤ plc l b) && inB (plc l a - plc l b) 1 r)))
set_option maxHeartbeats 1000000 in
theorem implMay_any (A : Option Addr) (c : Nat) (l : List Int) (r a b : Int) (w : World) (hs : SlI w A l) (hn : l.length ≤ 1048576) (hc : l.length ≤ c) :
    Calls Tryd.prog 20 #[.slice A l.length c, .int .i64 r, .int .i64 a, .int .i64 b] w fun e w' => e = .returned (.bool (mayB l r a b)) ∧ w = w' := by
  have HL := Lib.hid (implLadderOk_any A c l w hs hn hc)
  have HA := Lib.hid (indexI_any A c l a w hs hn)
  have HB := Lib.hid (indexI_any A c l b w hs hn)
  clear hs
  have h0 : Hid (mayB l r a b = (ladB l && (inB r 1 7 && (decide (0 ≤ plc l a) && (decide (0 ≤ plc l b) && inB (plc l a - plc l b) 1 r))))) := rfl
  have ba := plc_bd l a
  have bb := plc_bd l b
  cases h1 : ladB l
  case false =>
    go_enter Tryd.func20, Tryd.ntmps20
    go_wp2_with fail
    refine HL.out.mono ?_
    rintro e w1 ⟨rfl, rfl⟩
    rw [h1]
    go_wp2
    go_ret
    exact ⟨by rw [h0.out, h1]; rfl, rfl⟩
  cases h2 : inB r 1 7
  case false =>
    go_enter Tryd.func20, Tryd.ntmps20
    go_wp2_with fail
    refine HL.out.mono ?_
    rintro e w1 ⟨rfl, rfl⟩
    rw [h1]
    go_wp2_with (go_at_call 26; refine (within_any _ _ _ _).mono ?_; rintro e w' ⟨rfl, rfl⟩)
    go_ret
    exact ⟨by rw [h0.out, h1, h2]; rfl, rfl⟩
  have H1 := Lib.hid h1
  clear h1
  by_cases h3 : 0 ≤ plc l a
  case neg =>
    have HE : Hid (mayB l r a b = false) := by show _ = _; rw [h0.out]; simp [h3]
    go_enter Tryd.func20, Tryd.ntmps20
    go_wp2_with fail
    refine HL.out.mono ?_
    rintro e w1 ⟨rfl, rfl⟩
    rw [H1.out]
    go_wp2_with (go_at_call 26; refine (within_any _ _ _ _).mono ?_; rintro e w' ⟨rfl, rfl⟩)
    refine HA.out.mono ?_
    rintro e w1 ⟨rfl, rfl⟩
    go_wp2_with fail
    refine HB.out.mono ?_
    rintro e w1 ⟨rfl, rfl⟩
    go_wp2
    go_ret
    exact ⟨ret_bool HE.out.symm, rfl⟩
  by_cases h4 : 0 ≤ plc l b
  case neg =>
    have HE : Hid (mayB l r a b = false) := by show _ = _; rw [h0.out]; simp [h4]
    go_enter Tryd.func20, Tryd.ntmps20
    go_wp2_with fail
    refine HL.out.mono ?_
    rintro e w1 ⟨rfl, rfl⟩
    rw [H1.out]
    go_wp2_with (go_at_call 26; refine (within_any _ _ _ _).mono ?_; rintro e w' ⟨rfl, rfl⟩)
    refine HA.out.mono ?_
    rintro e w1 ⟨rfl, rfl⟩
    go_wp2_with fail
    refine HB.out.mono ?_
    rintro e w1 ⟨rfl, rfl⟩
    go_wp2
    go_ret
    exact ⟨ret_bool HE.out.symm, rfl⟩
  have HE : Hid (mayB l r a b = inB (plc l a - plc l b) 1 r) := by show _ = _; rw [h0.out, H1.out, h2]; simp [h3, h4]
  go_enter Tryd.func20, Tryd.ntmps20
  go_wp2_with fail
  refine HL.out.mono ?_
  rintro e w1 ⟨rfl, rfl⟩
  rw [H1.out]
  go_wp2_with (go_at_call 26; refine (within_any _ _ _ _).mono ?_; rintro e w' ⟨rfl, rfl⟩)
  refine HA.out.mono ?_
  rintro e w1 ⟨rfl, rfl⟩
  go_wp2_with fail
  refine HB.out.mono ?_
  rintro e w1 ⟨rfl, rfl⟩
  go_wp2_with (go_at_call 26; refine (within_any _ _ _ _).mono ?_; rintro e w' ⟨rfl, rfl⟩)
  go_ret
  exact ⟨ret_bool HE.out.symm, rfl⟩

set_option maxHeartbeats 1000000 in
theorem risen_any (A : Option Addr) (c : Nat) (xs : List Int) (lo up : Nat) (w : World) (hs : SlI w A xs) (hn : xs.length ≤ 1048576) (h1 : lo < xs.length) (h2 : up < lo) :
    Calls Tryd.prog 30 #[.slice A xs.length c, .int .i64 lo, .int .i64 up] w fun e w' => ∃ v', e = .returned v' ∧ Fr w' w.heap.size w'.heap.size v' (riseL xs lo up) ∧ Below w.heap.size w w' := by
  have HS := Lib.hid hs
  have HC := Lib.hid (cloneI_any A c xs w hs hn)
  clear hs
  go_enter Tryd.func30, Tryd.ntmps30
  go_wp2_with fail
  refine HC.out.mono ?_
  rintro e w1 ⟨A1, c1, rfl, hf1, hb1⟩
  obtain ⟨g, y0, rfl, q1, q2, -⟩ := hf1.at_ (k := 0) (by omega)
  obtain ⟨A', c', he, hc1, hm1⟩ := hf1.form
  injection he with e1 e2 e3
  subst e3
  clear e1 e2
  have F1 := Lib.hid hf1
  have B1 := Lib.hid hb1
  clear hf1 hb1 HC
  go_wp2_with fail
  refine (deleteI_any g xs.length c1 w.heap.size w1.heap.size lo xs w1 rfl F1.out h1).mono ?_
  rintro e w2 ⟨rfl, hf2, hk2⟩
  have F2 := Lib.hid hf2
  have B2 : Hid (Below w.heap.size w w2) := B1.out.trans (hk2.below (Nat.le_refl _) B1.out.size)
  have S2 := Lib.hid (HS.out.below B2.out)
  clear hf2 hk2
  obtain ⟨b1, o1, x, rfl, hx1, hx2, _⟩ := S2.out.at_ (k := lo) h1
  have HX : Hid (xs.getD lo 0 = x) := by show _ = _; rw [List.getD_eq_getElem?_getD, hx1]; rfl
  clear hx1
  have hdl : (xs.take lo ++ xs.drop (lo + 1)).length = xs.length - 1 := by simp; omega
  have HDL := Lib.hid hdl
  clear hdl
  go_wp2_with fail
  refine (insertI_any g (xs.length - 1) c1 w.heap.size w1.heap.size up (xs.take lo ++ xs.drop (lo + 1)) x w2 HDL.out.symm F2.out (by omega) (by omega)).mono ?_
  rintro e w3 ⟨rfl, hf3, hk3⟩
  have F3 := Lib.hid hf3
  have B3 : Hid (Below w.heap.size w w3) := B2.out.trans (hk3.below (Nat.le_refl _) B2.out.size)
  clear hf3 hk3
  go_wp2
  go_ret
  refine ⟨_, rfl, ?_, B3.out⟩
  rw [riseL, HX.out]
  have h := F3.out
  exact h.wide (Nat.le_refl _) h.2.2 (Nat.le_refl _)
end Go.Proofs.YtbipjmaeclgldaaDoor
