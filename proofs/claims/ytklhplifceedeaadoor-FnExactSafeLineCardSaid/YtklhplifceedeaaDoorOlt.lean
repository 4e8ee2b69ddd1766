/- Orders with few reversals: the tables of the sets. -/
import Derived.Test.YtklhplifceedeaaDoorOls
namespace Go.Proofs.YtklhplifceedeaaDoor
open Go.ChangeShapes Go.WideShapes Go.ChangeAt Go.RowKit

set_option maxHeartbeats 1000000 in
set_option maxRecDepth 100000 in
theorem l02All_any (v : Value) (x : TourV) (w : World) (hs : InT w v x) (hok : tourB x = true) :
    Calls Tryd.prog 17 #[v] w fun e w' => e = .returned (.int .i64 ((2 ^ x.wins.length - 1 : Nat) : Int)) ∧ Below w.heap.size w w' := by
  obtain ⟨u, rfl, A, c, rfl, hc, hm, hsl⟩ := hs
  obtain ⟨t1, t2, t3, _, _⟩ := tourB_t hok
  have hn8 : x.wins.length ≤ 8 := by omega
  have h256 : (2 : Nat) ^ x.wins.length ≤ 256 := Nat.pow_le_pow_right (by omega) hn8
  have hpos : 1 ≤ (2 : Nat) ^ x.wins.length := Nat.one_le_two_pow
  obtain ⟨sz, xs⟩ := x
  simp only at *
  subst t3
  have hT2 : (2 : Int) ^ xs.length = ((2 ^ xs.length : Nat) : Int) := by rw [Int.natCast_pow]; rfl
  obtain ⟨T, HT⟩ : ∃ T : Nat, Hid (2 ^ xs.length = T) := ⟨_, rfl⟩
  rw [HT.out] at h256 hT2 hpos ⊢
  have HE : Hid (((T - 1 : Nat) : Int) = (T : Int) - 1) := by show _ = _; omega
  clear hsl
  go_enter Tryd.func17, Tryd.ntmps17
  go_wp2
  go_ret
  exact ⟨ret_int (by rw [HE.out]), (Below.refl _ w).alloc (Nat.le_refl _) _⟩
end Go.Proofs.YtklhplifceedeaaDoor
