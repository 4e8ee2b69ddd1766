/- Orders with few reversals: how few. -/
import Derived.Test.YtkcaemdgabjggaaDoorBow
import Derived.Test.YtkcaemdgabjggaaDoorTs
namespace Go.Proofs.YtkcaemdgabjggaaDoor
open Go.ChangeShapes Go.WideShapes Go.ChangeAt Go.RowKit

set_option maxHeartbeats 4000000 in
set_option maxRecDepth 100000 in
theorem implFewest_any (v : Value) (x : TourV) (w : World) (hs : InT w v x) (hok : tourB x = true) :
    Calls Tryd.prog 20 #[v] w fun e w' => e = .returned (.int .i64 (fe x (2 ^ x.wins.length - 1))) ∧ Below w.heap.size w w' := by
  have HIT := Lib.hid hs
  have HOK := Lib.hid hok
  obtain ⟨u, rfl, A, c, rfl, hc, hm, hsl⟩ := hs
  obtain ⟨t1, t2, t3, _, _⟩ := tourB_t hok
  have hn8 : x.wins.length ≤ 8 := by omega
  have hT2 : (2 : Int) ^ x.wins.length = ((2 ^ x.wins.length : Nat) : Int) := by rw [Int.natCast_pow]; rfl
  have h256 : (2 : Nat) ^ x.wins.length ≤ 256 := Nat.pow_le_pow_right (by omega) hn8
  have hpos : 1 ≤ (2 : Nat) ^ x.wins.length := Nat.one_le_two_pow
  have HTO : Hid (∀ W, Below w.heap.size w W → Calls Tryd.prog 16 #[.agg #[.int .i64 x.size, .slice A x.wins.length c]] W fun e w' => e = .returned (.bool true) ∧ Below W.heap.size W w') := fun W hW => by
    have h := implTourOk_any _ x W (HIT.out.below hW)
    rwa [HOK.out] at h
  have HTAB : Hid (∀ W, Below w.heap.size w W → Calls Tryd.prog 32 #[.agg #[.int .i64 x.size, .slice A x.wins.length c]] W fun e w' => ∃ vb vw, e = .returned (.tuple #[vb, vw]) ∧ InI w' vb (fsts x (2 ^ x.wins.length)) ∧ Below W.heap.size W w') := fun W hW => arranged_any _ x W (HIT.out.below hW) HOK.out
  obtain ⟨T, HT⟩ : ∃ T : Nat, Hid (2 ^ x.wins.length = T) := ⟨_, rfl⟩
  rw [HT.out] at h256 hpos HTAB hT2 ⊢
  have HSZ : Hid (x.size = (x.wins.length : Int)) := t3.symm
  have HBX : Hid (Bx (w.alloc (.cells #[.int .i64 x.size, .slice A x.wins.length c] 27)) w.heap.size (.int .i64 x.size) (.slice A x.wins.length c) ∧ Below w.heap.size w (w.alloc (.cells #[.int .i64 x.size, .slice A x.wins.length c] 27)) ∧ w.heap.size < (w.alloc (.cells #[.int .i64 x.size, .slice A x.wins.length c] 27)).heap.size) := ⟨⟨by simp, by simp, by simp⟩, (Below.refl _ w).alloc (Nat.le_refl _) _, by simp⟩
  rw [HSZ.out] at HBX HTO HTAB
  rw [HSZ.out]
  have eT : wrap64 (T : Int) = T := by unfold wrap64; omega
  have eT1 : wrap64 ((T : Int) - 1) = ((T - 1 : Nat) : Int) := by unfold wrap64; omega
  have eT' : IntKind.i64.wrap (T : Int) = T := by rw [IntKind.wrap_i64]; omega
  have eT1' : IntKind.i64.wrap ((T : Int) - 1) = ((T - 1 : Nat) : Int) := by rw [IntKind.wrap_i64]; omega
  have hlT : ((T - 1 : Nat) : Int) < (T : Int) := by omega
  obtain ⟨T1, HT1⟩ : ∃ T1, Hid (T - 1 = T1) := ⟨_, rfl⟩
  rw [HT1.out] at eT1 eT1' hlT ⊢
  clear hsl hok t1 t2 t3
  go_enter Tryd.func20, Tryd.ntmps20
  go_wp2_with (first
    | (go_at_call 16; refine (HTO.out _ HBX.out.2.1).mono ?_; rintro e w0 ⟨rfl, hb⟩; have H0 : Hid (Bx w0 w.heap.size (.int .i64 (x.wins.length : Int)) (.slice A x.wins.length c) ∧ Below w.heap.size w w0 ∧ w.heap.size < w0.heap.size) := (show _ ∧ _ from ⟨HBX.out.1.below hb, HBX.out.2.1.trans (hb.mono (Nat.le_of_lt HBX.out.2.2)), Nat.lt_of_lt_of_le HBX.out.2.2 hb.size⟩); clear hb HBX; obtain ⟨q0, q1, q2⟩ := id H0.out.1)
    | (go_at_call 32; refine (HTAB.out _ H0.out.2.1).mono ?_; rintro e w1 ⟨vb, vw, rfl, hin, hb⟩; obtain ⟨bf, of, cf, rfl, hbf, hcell⟩ := hin.cells (by rw [fsts_len]; omega); rw [fsts_len]; have H1 : Hid (Bx w1 w.heap.size (.int .i64 (x.wins.length : Int)) (.slice A x.wins.length c) ∧ Below w.heap.size w w1) := (show _ ∧ _ from ⟨H0.out.1.below hb, H0.out.2.1.trans (hb.mono (Nat.le_of_lt H0.out.2.2))⟩); have qs := hcell T1 (fe x T1) (fsts_fe (by omega)); clear hin hb hcell hbf q0 q1 q2 H0; obtain ⟨q0, q1, q2⟩ := id H1.out.1))
  first
    | go_ret
    | go_outline
  all_goals exact ⟨rfl, H1.out.2⟩

set_option maxHeartbeats 4000000 in
set_option maxRecDepth 100000 in
theorem specFewest_any (v : Value) (x : TourV) (w : World) (hs : InT w v x) (hok : tourB x = true) :
    Calls Tryd.prog 14 #[v] w fun e w' => e = .returned (.int .i64 (fe x (2 ^ x.wins.length - 1))) ∧ Below w.heap.size w w' := by
  have HIT := Lib.hid hs
  have HOK := Lib.hid hok
  obtain ⟨u, rfl, A, c, rfl, hc, hm, hsl⟩ := hs
  obtain ⟨t1, t2, t3, _, _⟩ := tourB_t hok
  have hn8 : x.wins.length ≤ 8 := by omega
  have h256 : (2 : Nat) ^ x.wins.length ≤ 256 := Nat.pow_le_pow_right (by omega) hn8
  have hpos : 1 ≤ (2 : Nat) ^ x.wins.length := Nat.one_le_two_pow
  have HTO : Hid (∀ W, Below w.heap.size w W → Calls Tryd.prog 10 #[.agg #[.int .i64 x.size, .slice A x.wins.length c]] W fun e w' => e = .returned (.bool true) ∧ Below W.heap.size W w') := fun W hW => by
    have h := specTourOk_any _ x W (HIT.out.below hW)
    rwa [HOK.out] at h
  have HALL : Hid (∀ W, Below w.heap.size w W → Calls Tryd.prog 25 #[.agg #[.int .i64 x.size, .slice A x.wins.length c]] W fun e w' => e = .returned (.int .i64 ((2 ^ x.wins.length - 1 : Nat) : Int)) ∧ Below W.heap.size W w') := fun W hW => l02All_any _ x W (HIT.out.below hW) HOK.out
  have HTAB : Hid (∀ W, Below w.heap.size w W → Calls Tryd.prog 24 #[.agg #[.int .i64 x.size, .slice A x.wins.length c]] W fun e w' => ∃ vb vw, e = .returned (.tuple #[vb, vw]) ∧ InI w' vb (fsts x (2 ^ x.wins.length)) ∧ Below W.heap.size W w') := fun W hW => l08Table_any _ x W (HIT.out.below hW) HOK.out
  obtain ⟨T, HT⟩ : ∃ T : Nat, Hid (2 ^ x.wins.length = T) := ⟨_, rfl⟩
  rw [HT.out] at h256 hpos HTAB HALL ⊢
  have HBX : Hid (Bx (w.alloc (.cells #[.int .i64 x.size, .slice A x.wins.length c] 27)) w.heap.size (.int .i64 x.size) (.slice A x.wins.length c) ∧ Below w.heap.size w (w.alloc (.cells #[.int .i64 x.size, .slice A x.wins.length c] 27)) ∧ w.heap.size < (w.alloc (.cells #[.int .i64 x.size, .slice A x.wins.length c] 27)).heap.size) := ⟨⟨by simp, by simp, by simp⟩, (Below.refl _ w).alloc (Nat.le_refl _) _, by simp⟩
  have hlT : ((T - 1 : Nat) : Int) < (T : Int) := by omega
  obtain ⟨T1, HT1⟩ : ∃ T1, Hid (T - 1 = T1) := ⟨_, rfl⟩
  rw [HT1.out] at hlT HALL ⊢
  clear hsl hok t1 t2 t3
  go_enter Tryd.func14, Tryd.ntmps14
  go_wp2_with (first
    | (go_at_call 10; refine (HTO.out _ HBX.out.2.1).mono ?_; rintro e w0 ⟨rfl, hb⟩; have H0 : Hid (Bx w0 w.heap.size (.int .i64 x.size) (.slice A x.wins.length c) ∧ Below w.heap.size w w0 ∧ w.heap.size < w0.heap.size) := (show _ ∧ _ from ⟨HBX.out.1.below hb, HBX.out.2.1.trans (hb.mono (Nat.le_of_lt HBX.out.2.2)), Nat.lt_of_lt_of_le HBX.out.2.2 hb.size⟩); clear hb HBX; obtain ⟨q0, q1, q2⟩ := id H0.out.1)
    | (go_at_call 24; refine (HTAB.out _ H0.out.2.1).mono ?_; rintro e w1 ⟨vb, vw, rfl, hin, hb⟩; obtain ⟨bf, of, cf, rfl, hbf, hcell⟩ := hin.cells (by rw [fsts_len]; omega); rw [fsts_len]; have H1 : Hid (Bx w1 w.heap.size (.int .i64 x.size) (.slice A x.wins.length c) ∧ Below w.heap.size w w1 ∧ w.heap.size < w1.heap.size ∧ bf < w1.heap.size ∧ w1.cell? ⟨bf, of + T1, none⟩ = some (.int .i64 (fe x T1))) := (show _ ∧ _ from ⟨H0.out.1.below hb, H0.out.2.1.trans (hb.mono (Nat.le_of_lt H0.out.2.2)), Nat.lt_of_lt_of_le H0.out.2.2 hb.size, hbf, hcell T1 (fe x T1) (fsts_fe (by have := HT1.out; omega))⟩); clear hin hb hcell hbf q0 q1 q2 H0; obtain ⟨q0, q1, q2⟩ := id H1.out.1)
    | (go_at_call 25; refine (HALL.out _ H1.out.2.1).mono ?_; rintro e w2 ⟨rfl, hb⟩; have qs := (hb.cell (p := ⟨bf, of + T1, none⟩) H1.out.2.2.2.1).trans H1.out.2.2.2.2; have H2 : Hid (Below w.heap.size w w2) := H1.out.2.1.trans (hb.mono (Nat.le_of_lt H1.out.2.2.1)); clear hb q0 q1 q2))
  first
    | go_ret
    | go_outline
  all_goals exact ⟨rfl, H2.out⟩
end Go.Proofs.YtkcaemdgabjggaaDoor
