/- Goals and points of results and of leagues: contracts. -/
import Derived.Test.YthlkhmbndaecfaaTb
import Derived.Test.YthlkhmbndaecfaaBox
import Derived.Deep.RegionHeld3
namespace Go.Proofs.Ythlkhmbndaecfaa
open Go.ChangeShapes Go.WideShapes Go.ChangeAt Go.RowKit

def cmpI (a b : Int) : Int := if a < b then -1 else if b < a then 1 else 0
theorem isNaN_any (a : Int) (w : World) : Calls Try.prog 55 #[.int .i64 a] w fun e w' => e = .returned (.bool false) ∧ w = w' := by
  go_enter Try.func55, Try.ntmps55
  go_wp2
  go_ret
  exact ⟨ret_bool (by simp), rfl⟩
theorem cmpCompare_any (a b : Int) (w : World) : Calls Try.prog 53 #[.int .i64 a, .int .i64 b] w fun e w' => e = .returned (.int .i64 (cmpI a b)) ∧ w = w' := by
  by_cases h1 : a < b
  · have HE : Hid (cmpI a b = -1) := by show _ = _; rw [cmpI, if_pos h1]
    go_enter Try.func53, Try.ntmps53
    go_wp2_with (go_at_call 55; refine (isNaN_any _ _).mono ?_; rintro e w' ⟨rfl, rfl⟩)
    go_ret
    exact ⟨ret_int HE.out.symm, rfl⟩
  · by_cases h2 : b < a
    · have HE : Hid (cmpI a b = 1) := by show _ = _; rw [cmpI, if_neg h1, if_pos h2]
      go_enter Try.func53, Try.ntmps53
      go_wp2_with (go_at_call 55; refine (isNaN_any _ _).mono ?_; rintro e w' ⟨rfl, rfl⟩)
      go_ret
      exact ⟨ret_int HE.out.symm, rfl⟩
    · have HE : Hid (cmpI a b = 0) := by show _ = _; rw [cmpI, if_neg h1, if_neg h2]
      go_enter Try.func53, Try.ntmps53
      go_wp2_with (go_at_call 55; refine (isNaN_any _ _).mono ?_; rintro e w' ⟨rfl, rfl⟩)
      go_ret
      exact ⟨ret_int HE.out.symm, rfl⟩

set_option maxRecDepth 100000 in
theorem goalsFor_any (rh ra rg rt c : Int) (w : World) :
    Calls Try.prog 47 #[.agg #[.int .i64 rh, .int .i64 ra, .int .i64 rg, .int .i64 rt], .int .i64 c] w fun e w' => e = .returned (.tuple #[.int .i64 (if c = rh then rg else rt), .int .i64 (if c = rh then rt else rg)]) ∧ Below w.heap.size w w' := by
  by_cases h : c = rh
  · have t1 : (c == rh) = true := beq_iff_eq.2 h
    rw [if_pos h, if_pos h]
    clear h
    go_enter Try.func47, Try.ntmps47
    go_wp2_with fail
    go_quiet (fail)
    rename_i nq
    have HB : Hid (Below w.heap.size w ((w.alloc (.cells #[.int .i64 rh, .int .i64 ra, .int .i64 rg, .int .i64 rt] 39)).drewN nq)) := below_drewN ((Below.refl _ w).alloc (Nat.le_refl _) _) _
    generalize (w.alloc (.cells #[.int .i64 rh, .int .i64 ra, .int .i64 rg, .int .i64 rt] 39)).drewN nq = w1 at *
    go_wp2
    go_ret2
    exact ⟨rfl, HB.out⟩
  · have t1 : (c == rh) = false := beq_eq_false_iff_ne.2 h
    rw [if_neg h, if_neg h]
    clear h
    go_enter Try.func47, Try.ntmps47
    go_wp2_with fail
    go_quiet (fail)
    rename_i nq
    have HB : Hid (Below w.heap.size w ((w.alloc (.cells #[.int .i64 rh, .int .i64 ra, .int .i64 rg, .int .i64 rt] 39)).drewN nq)) := below_drewN ((Below.refl _ w).alloc (Nat.le_refl _) _) _
    generalize (w.alloc (.cells #[.int .i64 rh, .int .i64 ra, .int .i64 rg, .int .i64 rt] 39)).drewN nq = w1 at *
    go_wp2
    go_ret2
    exact ⟨rfl, HB.out⟩

set_option maxRecDepth 100000 in
theorem outcome_any (rh ra rg rt c : Int) (w : World) :
    Calls Try.prog 50 #[.agg #[.int .i64 rh, .int .i64 ra, .int .i64 rg, .int .i64 rt], .int .i64 c] w fun e w' => e = .returned (.int .i64 (1 + cmpI (if c = rh then rg else rt) (if c = rh then rt else rg))) ∧ Below w.heap.size w w' := by
  generalize hx : (if c = rh then rg else rt) = x
  generalize hy : (if c = rh then rt else rg) = y
  have HX := Lib.hid hx
  have HY := Lib.hid hy
  clear hx hy
  have hz : -1 ≤ cmpI x y ∧ cmpI x y ≤ 1 := by unfold cmpI; split; omega; split <;> omega
  obtain ⟨z1, z2⟩ := hz
  go_enter Try.func50, Try.ntmps50
  go_wp2_with (first
    | (go_at_call 47; refine (goalsFor_any _ _ _ _ _ _).mono ?_; rintro e w1 ⟨rfl, hb⟩; rw [HX.out, HY.out]; have HB : Hid (Below w.heap.size w w1) := ((Below.refl _ w).alloc (Nat.le_refl _) _).trans (hb.mono (by simp)); clear hb)
    | (go_at_call 53; refine (cmpCompare_any _ _ _).mono ?_; rintro e w' ⟨rfl, rfl⟩))
  go_ret
  exact ⟨rfl, HB.out⟩

theorem idx3 (k : Int) (v : Int) (h : k = 0 ∧ v = 0 ∨ k = 1 ∧ v = 1 ∨ k = 2 ∧ v = 3) (w : World) : (Instr.index 76 (.agg #[.int .i64 0, .int .i64 1, .int .i64 3]) (.int .i64 k)).run Try.prog w = .ok (.int .i64 v) w := by
  rcases h with ⟨rfl, rfl⟩ | ⟨rfl, rfl⟩ | ⟨rfl, rfl⟩ <;> kernel_rfl
set_option maxRecDepth 100000 in
theorem pointsFor_any (rh ra rg rt c : Int) (w : World) :
    Calls Try.prog 45 #[.agg #[.int .i64 rh, .int .i64 ra, .int .i64 rg, .int .i64 rt], .int .i64 c] w fun e w' => e = .returned (.int .i64 (ptsOf (if c = rh then rg else rt) (if c = rh then rt else rg))) ∧ Below w.heap.size w w' := by
  generalize hx : (if c = rh then rg else rt) = x
  generalize hy : (if c = rh then rt else rg) = y
  have HX := Lib.hid hx
  have HY := Lib.hid hy
  clear hx hy
  by_cases h1 : x < y
  · have HC : Hid (cmpI x y = -1 ∧ ptsOf x y = 0) := ⟨by rw [cmpI, if_pos h1], by rw [ptsOf, if_neg (by omega), if_pos h1]⟩
    clear h1
    have ix := idx3 0 0 (.inl ⟨rfl, rfl⟩)
    go_enter Try.func45, Try.ntmps45
    go_wp2_with (go_at_call 50; refine (outcome_any _ _ _ _ _ _).mono ?_; rintro e w1 ⟨rfl, hb⟩; rw [HX.out, HY.out, HC.out.1]; have HB : Hid (Below w.heap.size w w1) := ((Below.refl _ w).alloc (Nat.le_refl _) _).trans (hb.mono (by simp)); clear hb)
    go_ret
    exact ⟨ret_int (by rw [HC.out.2]), HB.out⟩
  · by_cases h2 : y < x
    · have HC : Hid (cmpI x y = 1 ∧ ptsOf x y = 3) := ⟨by rw [cmpI, if_neg h1, if_pos h2], by rw [ptsOf, if_pos h2]⟩
      clear h1 h2
      have ix := idx3 2 3 (.inr (.inr ⟨rfl, rfl⟩))
      go_enter Try.func45, Try.ntmps45
      go_wp2_with (go_at_call 50; refine (outcome_any _ _ _ _ _ _).mono ?_; rintro e w1 ⟨rfl, hb⟩; rw [HX.out, HY.out, HC.out.1]; have HB : Hid (Below w.heap.size w w1) := ((Below.refl _ w).alloc (Nat.le_refl _) _).trans (hb.mono (by simp)); clear hb)
      go_ret
      exact ⟨ret_int (by rw [HC.out.2]), HB.out⟩
    · have HC : Hid (cmpI x y = 0 ∧ ptsOf x y = 1) := ⟨by rw [cmpI, if_neg h1, if_neg h2], by rw [ptsOf, if_neg h2, if_neg h1]⟩
      clear h1 h2
      have ix := idx3 1 1 (.inr (.inl ⟨rfl, rfl⟩))
      go_enter Try.func45, Try.ntmps45
      go_wp2_with (go_at_call 50; refine (outcome_any _ _ _ _ _ _).mono ?_; rintro e w1 ⟨rfl, hb⟩; rw [HX.out, HY.out, HC.out.1]; have HB : Hid (Below w.heap.size w w1) := ((Below.refl _ w).alloc (Nat.le_refl _) _).trans (hb.mono (by simp)); clear hb)
      go_ret
      exact ⟨ret_int (by rw [HC.out.2]), HB.out⟩

theorem pointsHome_any (rh ra rg rt : Int) (w : World) :
    Calls Try.prog 45 #[.agg #[.int .i64 rh, .int .i64 ra, .int .i64 rg, .int .i64 rt], .int .i64 rh] w fun e w' => e = .returned (.int .i64 (ptsOf rg rt)) ∧ Below w.heap.size w w' := by
  have h := pointsFor_any rh ra rg rt rh w
  rw [if_pos rfl, if_pos rfl] at h; exact h
theorem pointsAway_any (rh ra rg rt : Int) (w : World) (hne : rh ≠ ra) :
    Calls Try.prog 45 #[.agg #[.int .i64 rh, .int .i64 ra, .int .i64 rg, .int .i64 rt], .int .i64 ra] w fun e w' => e = .returned (.int .i64 (ptsOf rt rg)) ∧ Below w.heap.size w w' := by
  have h := pointsFor_any rh ra rg rt ra w
  rw [if_neg (Ne.symm hne), if_neg (Ne.symm hne)] at h; exact h

def orL : List Int → Int
  | [] => 0
  | x :: xs => if x = 0 then orL xs else x
theorem orL_go {xs : List Int} {j : Nat} (h : xs[j]? = some 0) : orL (xs.drop j) = orL (xs.drop (j + 1)) := by
  obtain ⟨hl, e⟩ := List.getElem?_eq_some_iff.1 h
  rw [List.drop_eq_getElem_cons hl, e, orL, if_pos rfl]
theorem orL_hit {xs : List Int} {j : Nat} {x : Int} (h : xs[j]? = some x) (hx : x ≠ 0) : orL (xs.drop j) = x := by
  obtain ⟨hl, e⟩ := List.getElem?_eq_some_iff.1 h
  rw [List.drop_eq_getElem_cons hl, e, orL, if_neg hx]
theorem cmpOr_any (A : Option Addr) (k : Nat) (xs : List Int) (w : World) (h : SlI w A xs) (hn : xs.length ≤ 1048576) :
    Calls Try.prog 30 #[.slice A xs.length k] w fun e w' => e = .returned (.int .i64 (orL xs)) ∧ w = w' := by
  have HS := Lib.hid h
  clear h
  generalize hl : xs.length = n at *
  have HL := Lib.hid hl
  clear hl
  go_enter Try.func30, Try.ntmps30
  go_wp2
  go_loop [8] (fun v => ∃ j : Nat, j ≤ n ∧ v = .int .i64 j ∧ Hid (orL (xs.drop j) = orL xs)) (fun v => n - (intOf v).toNat)
  case atStart => exact ⟨0, Nat.zero_le _, rfl, rfl⟩
  case round =>
    obtain ⟨j, hj, rfl, HJ⟩ := hrel
    by_cases hlt : j < n
    · obtain ⟨b, off, x, rfl, hx, c1, _⟩ := HS.out.at_ (k := j) (by rw [HL.out]; exact hlt)
      have HX := Lib.hid hx
      clear hx
      by_cases hx0 : x = 0
      · subst hx0
        go_wp2
        go_round
        all_goals first | exact ⟨j + 1, by omega, by go_num, (orL_go HX.out).symm.trans HJ.out⟩ | (simp [intOf]; try omega)
      · have HE : Hid (orL xs = x) := HJ.out.symm.trans (orL_hit HX.out hx0)
        have t1 : (x != 0) = true := by simp [hx0]
        go_wp2
        go_ret
        exact ⟨ret_int HE.out.symm, rfl⟩
    · obtain rfl : j = n := by omega
      have HE : Hid (orL xs = 0) := by
        have := HJ.out
        rw [List.drop_of_length_le (by rw [HL.out]; exact Nat.le_refl _)] at this
        exact this.symm
      go_wp2
      go_ret
      exact ⟨ret_int HE.out.symm, rfl⟩
theorem orL3 (a b c : Int) : orL [a, b, c] = orF a b c := by
  simp only [orL, orF]
  split
  · split
    · split
      · next h => exact h.symm
      · rfl
    · rfl
  · rfl
end Go.Proofs.Ythlkhmbndaecfaa
