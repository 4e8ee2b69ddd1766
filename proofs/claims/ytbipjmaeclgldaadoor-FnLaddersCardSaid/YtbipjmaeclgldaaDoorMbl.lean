/- An append that tells where the grown row lies; two rows that grow beside each other. -/
import Derived.Test.YtbipjmaeclgldaaDoorStd
import Derived.Test.YtbipjmaeclgldaaDoorRo
import Derived.Maps.AppendAt
import Derived.Test.YtbipjmaeclgldaaDoorDto
import Derived.Test.YtbipjmaeclgldaaDoorMbk
import Derived.Test.YtbipjmaeclgldaaDoorTools
import Derived.Laws.BitsLemmas
import Derived.Test.YtbipjmaeclgldaaDoorMbd
import Derived.Test.YtbipjmaeclgldaaDoorTq
import Derived.Deep.RegionHeld3
namespace Go.Proofs.YtbipjmaeclgldaaDoor
open Go.ChangeShapes Go.WideShapes Go.ChangeAt Go.RowKit

/-- Two rows of the call's own, beside each other. -/
structure Two (wr : World) (lo : Nat) (vb vw : Value) (bs ws : List Int) : Prop where
  fb : Fr wr lo wr.heap.size vb bs
  fw : Fr wr lo wr.heap.size vw ws
  ne : ∀ g, vb.ownBlock = some g → vw.ownBlock ≠ some g
theorem Two.below {wr w2 : World} {lo : Nat} {vb vw : Value} {bs ws : List Int} (h : Two wr lo vb vw bs ws) (hb : Below wr.heap.size wr w2) : Two w2 lo vb vw bs ws :=
  ⟨(h.fb.grow hb).wide (Nat.le_refl _) hb.size (Nat.le_refl _), (h.fw.grow hb).wide (Nat.le_refl _) hb.size (Nat.le_refl _), h.ne⟩
theorem Two.left {wr w2 : World} {lo : Nat} {vb vb' vw : Value} {bs ws : List Int} {x : Int} (h : Two wr lo vb vw bs ws) (hown : w2.ownsRow lo 3 1 vb' (bs.length + 1) (ints (bs ++ [x])))
    (hg : wr.grownBy w2 vb.ownBlock) (hat : vb'.ownBlock = vb.ownBlock ∨ vb'.ownBlock = some (wr.heap.size + 1)) : Two w2 lo vb' vw (bs ++ [x]) ws := by
  refine ⟨Fr.of_own (by rw [List.length_append]; exact hown), (h.fw.grownBy hg fun g hw hb => h.ne g hb hw).wide (Nat.le_refl _) hg.size (Nat.le_refl _), ?_⟩
  intro g hb hw
  rcases hat with e | e
  · exact h.ne g (e ▸ hb) hw
  · rw [e] at hb
    injection hb with hb
    have := h.fw.2.1 g hw
    omega
end Go.Proofs.YtbipjmaeclgldaaDoor
namespace Go.Proofs.YtbipjmaeclgldaaDoor
open Go.ChangeShapes Go.WideShapes Go.ChangeAt Go.RowKit

theorem l02OfN (m : Nat) (M : Int) (w : World) (h1 : 1 ≤ m) (h8 : m ≤ 8) (hm0 : 0 ≤ M) (hm : M < 536870912) :
    Calls Tryd.prog 36 #[.int .i64 (m : Int), .int .i64 M] w fun e w' => ∃ A c xs, xs.length = m ∧ e = .returned (.agg #[.int .i64 (m : Int), .slice A m c]) ∧ Fr w' w.heap.size w'.heap.size (.slice A m c) xs ∧ tourB ⟨(m : Int), xs⟩ = true ∧ Below w.heap.size w w' := by
  refine (l02OfZ (m : Int) M w (by omega) (by omega) hm0 hm).mono ?_
  rintro e w' ⟨A, c, xs, _, hl, rfl, hf, ht, hb⟩
  obtain rfl : xs.length = m := by omega
  exact ⟨A, c, xs, rfl, rfl, hf, ht, hb⟩
end Go.Proofs.YtbipjmaeclgldaaDoor
