/- Tours: the laws' helpers for them; the tour of a new console. -/
import Derived.Test.YtklhplifceedeaaDoorStd
import Derived.Test.YtklhplifceedeaaDoorBox
import Derived.Test.YtklhplifceedeaaDoorNum
import Derived.Deep.QuietTactic
import Derived.BigQuiet
namespace Go.Proofs.YtklhplifceedeaaDoor
open Go.ChangeShapes Go.WideShapes Go.ChangeAt Go.RowKit

structure TourV where
  size : Int
  wins : List Int
/-- The value v reads as the tour x. -/
def InT (w : World) (v : Value) (x : TourV) : Prop := ∃ u, v = .agg #[.int .i64 x.size, u] ∧ InI w u x.wins
theorem InT.below {w w' : World} {v : Value} {x : TourV} (h : InT w v x) (hb : Below w.heap.size w w') : InT w' v x := by
  obtain ⟨u, rfl, h⟩ := h; exact ⟨u, rfl, h.below hb⟩
def OwT (w : World) (lo hi : Nat) (v : Value) (x : TourV) : Prop := ∃ u, v = .agg #[.int .i64 x.size, u] ∧ Fr w lo hi u x.wins
theorem OwT.in_ {w : World} {lo hi : Nat} {v : Value} {x : TourV} (h : OwT w lo hi v x) : InT w v x := by
  obtain ⟨u, rfl, h⟩ := h; exact ⟨u, rfl, h.in_⟩
theorem OwT.keep {w w' : World} {lo hi l2 h2 : Nat} {v : Value} {x : TourV} (h : OwT w lo hi v x) (hk : Keep l2 h2 w w') (hd : hi ≤ l2 ∨ h2 ≤ lo) : OwT w' lo hi v x := by
  obtain ⟨u, rfl, h⟩ := h; exact ⟨u, rfl, h.keep hk hd⟩
theorem OwT.grow {w w' : World} {lo hi : Nat} {v : Value} {x : TourV} (h : OwT w lo hi v x) (hb : Below w.heap.size w w') : OwT w' lo hi v x := by
  obtain ⟨u, rfl, h⟩ := h; exact ⟨u, rfl, h.grow hb⟩
theorem OwT.form {w : World} {lo hi : Nat} {v : Value} {x : TourV} (h : OwT w lo hi v x) : ∃ A c, v = .agg #[.int .i64 x.size, .slice A x.wins.length c] := by
  obtain ⟨u, rfl, h⟩ := h
  obtain ⟨A, c, rfl, _⟩ := h.form
  exact ⟨A, c, rfl⟩
set_option maxRecDepth 100000 in
theorem eqTour_std (v u : Value) (x : TourV) (w : World) (hv : InT w v x) (hu : InT w u x) (hn : x.wins.length ≤ 1048576) :
    Calls Tryd.prog 8 #[v, u] w fun e w' => e = .returned (.bool true) ∧ Below w.heap.size w w' := by
  obtain ⟨v1, rfl, A, c, rfl, _, _, hs⟩ := hv
  obtain ⟨u1, rfl, B, d, rfl, _, _, hs2⟩ := hu
  have HS := Lib.hid (And.intro hs hs2)
  clear hs hs2
  go_enter Tryd.func8, Tryd.ntmps8
  go_wp2_with (go_at_call 15; refine (eqIntS_same A B x.wins.length x.wins.length c d x.wins _ rfl rfl ((HS.out.1.alloc _).alloc _) ((HS.out.2.alloc _).alloc _) hn).mono ?_; rintro e w1 ⟨rfl, hb⟩; have HB : Hid (Below w.heap.size w w1) := (((Below.refl _ w).alloc (Nat.le_refl _) _).alloc (by simp) _).trans (hb.mono (by simp; omega)); clear hb)
  go_ret
  exact ⟨rfl, HB.out⟩
end Go.Proofs.YtklhplifceedeaaDoor
