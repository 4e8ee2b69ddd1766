/- Triangles: both packages' contracts. -/
import Derived.Test.YtofpaekokmkhgaaGreatDoorMan
namespace Go.Proofs.YtofpaekokmkhgaaGreatDoor
open Go.ChangeShapes Go.WideShapes Go.ChangeAt Go.RowKit

def triT (x : TourV) : Nat → Int
  | 0 => (bin x.wins.length 3 : Nat)
  | k + 1 => triT x k - (bin (scN x k) 2 : Nat)
/-- How many triangles a valid tour has. -/
def triF (x : TourV) : Int := triT x x.wins.length
theorem bin3 : ∀ n : Fin 9, bin n.val 3 = n.val * (n.val - 1) * (n.val - 2) / 6 ∧ bin n.val 3 ≤ 56 := by decide +kernel
theorem bin2 : ∀ n : Fin 9, bin n.val 2 = n.val * (n.val - 1) / 2 ∧ bin n.val 2 ≤ 28 := by decide +kernel
theorem bin3i : ∀ n : Fin 9, wrap64 ((wrap64 (wrap64 ((n.val : Int) * ((n.val : Int) - 1)) * ((n.val : Int) - 2))).tdiv 6) = (bin n.val 3 : Nat) := by decide +kernel
theorem bin2i : ∀ n : Fin 9, wrap64 ((wrap64 ((n.val : Int) * ((n.val : Int) - 1))).tdiv 2) = (bin n.val 2 : Nat) := by decide +kernel
theorem triT_bd {x : TourV} (hn : x.wins.length ≤ 8) : ∀ k, triT x k ≤ 56 ∧ -28 * (k : Int) ≤ triT x k := by
  intro k
  induction k with
  | zero => have := (bin3 ⟨x.wins.length, by omega⟩).2; simp only at this; unfold triT; omega
  | succ k ih =>
    have := (bin2 ⟨scN x k, Nat.lt_succ_of_le (scN_le x k)⟩).2
    simp only at this
    unfold triT
    rw [Int.natCast_add, Int.natCast_one]
    omega

set_option maxHeartbeats 2000000 in
set_option maxRecDepth 100000 in
theorem implTriangles_any (v : Value) (x : TourV) (w : World) (hs : InT w v x) (hok : tourB x = true) :
    Calls Tryz.prog 13 #[v] w fun e w' => e = .returned (.int .i64 (triF x)) ∧ Below w.heap.size w w' := by
  have HIT := Lib.hid hs
  have HOK := Lib.hid hok
  obtain ⟨u, rfl, A, c, rfl, hc, hm, hsl⟩ := hs
  obtain ⟨t1, t2, t3, _, _⟩ := tourB_t hok
  have hn8 : x.wins.length ≤ 8 := by omega
  have HTO : Hid (∀ W, Below w.heap.size w W → Calls Tryz.prog 30 #[.agg #[.int .i64 x.size, .slice A x.wins.length c]] W fun e w' => e = .returned (.bool true) ∧ Below W.heap.size W w') := fun W hW => by
    have h := implTourOk_any _ x W (HIT.out.below hW)
    rwa [HOK.out] at h
  have HSC : Hid (∀ W (a : Nat), Below w.heap.size w W → a < x.wins.length → Calls Tryz.prog 32 #[.agg #[.int .i64 x.size, .slice A x.wins.length c], .int .i64 (a : Int)] W fun e w' => e = .returned (.int .i64 (scN x a : Nat)) ∧ Below W.heap.size W w') := fun W a hW ha => implScore_any _ x a W (HIT.out.below hW) HOK.out ha
  have HSZ : Hid (x.size = (x.wins.length : Int)) := t3.symm
  have HBX : Hid (Bx (w.alloc (.cells #[.int .i64 x.size, .slice A x.wins.length c] 25)) w.heap.size (.int .i64 x.size) (.slice A x.wins.length c) ∧ Below w.heap.size w (w.alloc (.cells #[.int .i64 x.size, .slice A x.wins.length c] 25)) ∧ w.heap.size < (w.alloc (.cells #[.int .i64 x.size, .slice A x.wins.length c] 25)).heap.size) := ⟨⟨by simp, by simp, by simp⟩, (Below.refl _ w).alloc (Nat.le_refl _) _, by simp⟩
  have HC3 : Hid (∀ W, Calls Tryz.prog 34 #[.int .i64 (x.wins.length : Int), .int .i64 3] W fun e w' => e = .returned (.int .i64 (triT x 0)) ∧ W = w') := fun W => choose_any (x.wins.length : Int) 3 W (by omega) (by omega) (by omega)
  rw [HSZ.out] at HBX HTO HSC
  rw [HSZ.out]
  clear hsl hok t1 t2 t3
  go_enter Tryz.func13, Tryz.ntmps13
  go_wp2_with (first
    | (go_at_call 30; refine (HTO.out _ HBX.out.2.1).mono ?_; rintro e w0 ⟨rfl, hb⟩; have H0 : Hid (Bx w0 w.heap.size (.int .i64 (x.wins.length : Int)) (.slice A x.wins.length c) ∧ Below w.heap.size w w0) := (show _ ∧ _ from ⟨HBX.out.1.below hb, HBX.out.2.1.trans (hb.mono (Nat.le_of_lt HBX.out.2.2))⟩); clear hb HBX; obtain ⟨q0, q1, q2⟩ := id H0.out.1)
    | (go_at_call 34; refine (HC3.out _).mono ?_; rintro e w' ⟨rfl, rfl⟩))
  go_loopw [3, 13] (fun v i wr => ∃ (j : Nat), j ≤ x.wins.length ∧ i = .int .i64 j ∧ v = .int .i64 (triT x j) ∧ Hid (Bx wr w.heap.size (.int .i64 (x.wins.length : Int)) (.slice A x.wins.length c) ∧ Below w.heap.size w wr)) (fun _ i _ => x.wins.length - (intOf i).toNat)
  case atStart => exact ⟨0, Nat.zero_le _, rfl, rfl, H0.out⟩
  case round =>
    obtain ⟨j, hj, rfl, rfl, HR⟩ := hrel
    clear H0 q0 q1 q2
    by_cases hlt : j < x.wins.length
    case neg =>
      obtain rfl : j = x.wins.length := by omega
      have HE : Hid (triF x = triT x x.wins.length) := rfl
      go_wp2
      go_ret
      exact ⟨by rw [HE.out]; rfl, HR.out.2⟩
    obtain ⟨q0, q1, q2⟩ := id HR.out.1
    have HX : Hid (triT x (j + 1) = triT x j - (bin (scN x j) 2 : Nat)) := rfl
    have hb := triT_bd hn8 j
    have hb2 := (bin2 ⟨scN x j, Nat.lt_succ_of_le (scN_le x j)⟩).2
    have hsc := scN_le x j
    simp only at hb2
    have HS := Lib.hid (HSC.out wr j HR.out.2 hlt)
    have HC2 : Hid (∀ W, Calls Tryz.prog 34 #[.int .i64 ((scN x j : Nat) : Int), .int .i64 2] W fun e w' => e = .returned (.int .i64 (bin (scN x j) 2 : Nat)) ∧ W = w') := fun W => choose_any ((scN x j : Nat) : Int) 2 W (by omega) (by omega) (by omega)
    generalize bin (scN x j) 2 = D at *
    obtain ⟨C, HC⟩ : ∃ C : Nat, Hid (scN x j = C) := ⟨_, rfl⟩
    rw [HC.out] at HS HC2
    generalize triT x j = R at *
    go_wp2_with (first
      | (go_at_call 32; refine HS.out.mono ?_; rintro e w2 ⟨rfl, hb⟩; have H2 : Hid (Bx w2 w.heap.size (.int .i64 (x.wins.length : Int)) (.slice A x.wins.length c) ∧ Below w.heap.size w w2) := (show _ ∧ _ from ⟨HR.out.1.below hb, HR.out.2.trans (hb.mono HR.out.2.size)⟩); clear hb q0 q1 q2)
      | (go_at_call 34; refine (HC2.out _).mono ?_; rintro e w' ⟨rfl, rfl⟩))
    go_roundw
    case rel => exact ⟨j + 1, by omega, by go_num, by rw [HX.out]; try go_num, H2.out⟩
    case measure => simp [intOf]; omega
end Go.Proofs.YtofpaekokmkhgaaGreatDoor
