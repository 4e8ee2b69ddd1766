/- Breaks and carry-over of plans: plain law. -/
import Derived.Test.YtofpaekokmkhgaaGreatDoorMbg
import Derived.Deep.Draws
namespace Go.Proofs.YtofpaekokmkhgaaGreatDoor
open Go.ChangeShapes Go.WideShapes Go.ChangeAt Go.RowKit

def elP (P : List (List Int)) (r k : Nat) : Int := (P.getD r []).getD k 0
def hmB (P : List (List Int)) (r k : Nat) : Bool := decide (0 < elP P r k)
/-- The breaks of a club up to round j. -/
def brkTo (P : List (List Int)) (k : Nat) : Nat → Nat
  | 0 => 0
  | j + 1 => if hmB P (j + 1) k = hmB P j k then brkTo P k j + 1 else brkTo P k j
theorem brkTo_yes {P : List (List Int)} {k j : Nat} (h : hmB P (j + 1) k = hmB P j k) : brkTo P k (j + 1) = brkTo P k j + 1 := by rw [brkTo, if_pos h]
theorem brkTo_no {P : List (List Int)} {k j : Nat} (h : ¬ hmB P (j + 1) k = hmB P j k) : brkTo P k (j + 1) = brkTo P k j := by rw [brkTo, if_neg h]
theorem brkTo_le (P : List (List Int)) (k j : Nat) : brkTo P k j ≤ j := by
  induction j with
  | zero => simp [brkTo]
  | succ j ih => rw [brkTo]; split <;> omega
def brkF (P : List (List Int)) (k : Nat) : Nat := brkTo P k (P.length - 1)
def brkSum (P : List (List Int)) : Nat → Nat
  | 0 => 0
  | k + 1 => brkSum P k + brkF P k
theorem brkSum_le (P : List (List Int)) (h : P.length ≤ 36) (k : Nat) : brkSum P k ≤ 36 * k := by
  induction k with
  | zero => simp [brkSum]
  | succ k ih => have := brkTo_le P k (P.length - 1); rw [brkSum, brkF]; omega

def oppAt (P : List (List Int)) (r k : Nat) : Nat := (opp (elP P r k)).toNat
def bump (M : List (List Int)) (a b : Nat) : List (List Int) := M.set a ((M.getD a []).set b ((M.getD a []).getD b 0 + 1))
def carK (P : List (List Int)) (r s : Nat) (M : List (List Int)) : Nat → List (List Int)
  | 0 => M
  | k + 1 => bump (carK P r s M k) (oppAt P r k) (oppAt P s k)
def carR (n : Nat) (P : List (List Int)) : Nat → List (List Int)
  | 0 => List.replicate n (List.replicate n 0)
  | j + 1 => carK P j ((j + 1) % P.length) (carR n P j) n
/-- A table of n rows of n numbers from 0 to c. -/
def sqM (n c : Nat) (M : List (List Int)) : Prop := M.length = n ∧ ∀ (k : Nat) (xs : List Int), M[k]? = some xs → xs.length = n ∧ ∀ (b : Nat) (x : Int), xs[b]? = some x → 0 ≤ x ∧ x ≤ c
theorem sqM.wide {n c d : Nat} {M : List (List Int)} (h : sqM n c M) (hd : c ≤ d) : sqM n d M :=
  ⟨h.1, fun k xs hk => ⟨(h.2 k xs hk).1, fun b x hx => by have := (h.2 k xs hk).2 b x hx; omega⟩⟩
theorem sqM.row {n c a : Nat} {M : List (List Int)} (h : sqM n c M) (ha : a < n) : ∃ xs, M[a]? = some xs ∧ M.getD a [] = xs ∧ xs.length = n := by
  have h1 : M[a]? = some M[a]! := by rw [getElem!_pos M a (by rw [h.1]; exact ha)]; exact List.getElem?_eq_getElem _
  exact ⟨_, h1, by rw [List.getD_eq_getElem?_getD, h1]; rfl, (h.2 a _ h1).1⟩
theorem sqM.cell {n c a b : Nat} {M : List (List Int)} {xs : List Int} (h : sqM n c M) (hx : M[a]? = some xs) (hb : b < n) : ∃ x, xs[b]? = some x ∧ xs.getD b 0 = x ∧ 0 ≤ x ∧ x ≤ c := by
  have hl := (h.2 a xs hx).1
  have h1 : xs[b]? = some xs[b]! := by rw [getElem!_pos xs b (by omega)]; exact List.getElem?_eq_getElem _
  exact ⟨_, h1, by rw [List.getD_eq_getElem?_getD, h1]; rfl, (h.2 a xs hx).2 b _ h1⟩
theorem sqM.bump {n c a b : Nat} {M : List (List Int)} (h : sqM n c M) (ha : a < n) (hb : b < n) : sqM n (c + 1) (bump M a b) := by
  obtain ⟨xs, h1, h2, h3⟩ := h.row ha
  obtain ⟨x, h4, h5, h6, h7⟩ := h.cell h1 hb
  unfold Go.Proofs.YtofpaekokmkhgaaGreatDoor.bump
  rw [h2, h5]
  refine ⟨by rw [List.length_set]; exact h.1, fun k ys hk => ?_⟩
  by_cases e : a = k
  · subst e
    rw [List.getElem?_set_self (by rw [h.1]; exact ha)] at hk
    injection hk with hk
    subst hk
    refine ⟨by rw [List.length_set]; exact h3, fun b' y hy => ?_⟩
    by_cases e2 : b = b'
    · subst e2
      rw [List.getElem?_set_self (by omega)] at hy
      injection hy with hy
      omega
    · rw [List.getElem?_set_ne e2] at hy
      have := (h.2 a xs h1).2 b' y hy
      omega
  · rw [List.getElem?_set_ne e] at hk
    exact ⟨(h.2 k ys hk).1, fun b' y hy => by have := (h.2 k ys hk).2 b' y hy; omega⟩
theorem bump_eq {M : List (List Int)} {xs : List Int} {x : Int} {a b : Nat} (h1 : M[a]? = some xs) (h2 : xs[b]? = some x) : bump M a b = M.set a (xs.set b (x + 1)) := by
  unfold bump
  rw [show M.getD a [] = xs from by rw [List.getD_eq_getElem?_getD, h1]; rfl, show xs.getD b 0 = x from by rw [List.getD_eq_getElem?_getD, h2]; rfl]
/-- A valid plan's entries name clubs. -/
theorem planB_opp {n : Nat} {P : List (List Int)} (h : planB n P = true) {r k : Nat} (hr : r < P.length) (hk : k < n) : oppAt P r k < n ∧ (oppAt P r k : Int) = opp (elP P r k) ∧ -10 ≤ elP P r k ∧ elP P r k ≤ 10 ∧ elP P r k ≠ 0 := by
  have h0 : P[r]? = some P[r]! := by rw [getElem!_pos P r hr]; exact List.getElem?_eq_getElem _
  have hR : P.getD r [] = P[r]! := by rw [List.getD_eq_getElem?_getD, h0]; rfl
  have h1 := planB_row h h0
  unfold planB clubsB at h
  simp only [Bool.and_eq_true] at h
  have h2 := List.all_eq_true.1 h.2.2 _ (List.mem_of_getElem? h0)
  unfold roundB at h2
  rw [Bool.and_eq_true] at h2
  have h3 := allTo_t.1 h2.2 k (by omega)
  have h4 := h1.2.2.2 k (by omega)
  unfold elB at h3
  simp only [Bool.and_eq_true, Bool.not_eq_true', beq_eq_false_iff_ne, ne_eq] at h3
  unfold oppAt elP
  rw [hR]
  generalize P[r]!.getD k 0 = x at *
  have h5 : x ≠ 0 := by omega
  have h6 : 0 ≤ opp x ∧ opp x < n := by rw [opp_eq]; split <;> omega
  omega
theorem sqM_carK {n c : Nat} {P : List (List Int)} {r s : Nat} {M : List (List Int)} (h : planB n P = true) (hr : r < P.length) (hs : s < P.length) (hM : sqM n c M) : ∀ k, k ≤ n → sqM n (c + k) (carK P r s M k) := by
  intro k
  induction k with
  | zero => intro _; exact hM
  | succ k ih => intro hk; exact (ih (by omega)).bump (planB_opp h hr (by omega)).1 (planB_opp h hs (by omega)).1
theorem sqM_zero (n : Nat) : sqM n 0 (List.replicate n (List.replicate n 0)) := by
  refine ⟨by simp, fun k xs hk => ?_⟩
  rw [List.getElem?_replicate] at hk
  split at hk
  · injection hk with hk
    subst hk
    refine ⟨by simp, fun b x hx => ?_⟩
    rw [List.getElem?_replicate] at hx
    split at hx
    · injection hx with hx; omega
    · cases hx
  · cases hk
theorem sqM_carR {n : Nat} {P : List (List Int)} (h : planB n P = true) : ∀ j, j ≤ P.length → sqM n (n * j) (carR n P j) := by
  intro j
  induction j with
  | zero => intro _; exact (sqM_zero n).wide (Nat.zero_le _)
  | succ j ih =>
    intro hj
    have := sqM_carK h (r := j) (s := (j + 1) % P.length) (by omega) (Nat.mod_lt _ (by omega)) (ih (by omega)) n (Nat.le_refl _)
    rw [show n * (j + 1) = n * j + n from by rw [Nat.mul_add, Nat.mul_one]]
    exact this
def sqR (xs : List Int) : Int := (xs.map fun x => x * x).sum
def sqS (M : List (List Int)) : Int := (M.map sqR).sum
theorem sqR_take {xs : List Int} {k : Nat} {x : Int} (h : xs[k]? = some x) : sqR (xs.take (k + 1)) = sqR (xs.take k) + x * x := by
  unfold sqR; rw [take_snoc h, List.map_append, List.sum_append]; simp
theorem sqS_take {M : List (List Int)} {k : Nat} {xs : List Int} (h : M[k]? = some xs) : sqS (M.take (k + 1)) = sqS (M.take k) + sqR xs := by
  unfold sqS; rw [take_snoc h, List.map_append, List.sum_append]; simp
theorem sq_cap {x : Int} (h0 : 0 ≤ x) (h1 : x ≤ 360) : 0 ≤ x * x ∧ x * x ≤ 129600 := by
  have := Int.mul_nonneg h0 h0
  have := Int.mul_le_mul h1 h1 h0 (by omega : (0 : Int) ≤ 360)
  omega
theorem sqR_cap {xs : List Int} (h : ∀ (b : Nat) (x : Int), xs[b]? = some x → 0 ≤ x ∧ x ≤ 360) : ∀ k, k ≤ xs.length → 0 ≤ sqR (xs.take k) ∧ sqR (xs.take k) ≤ 129600 * k := by
  intro k
  induction k with
  | zero => intro _; simp [sqR]
  | succ k ih =>
    intro hk
    have h1 : xs[k]? = some xs[k] := List.getElem?_eq_getElem (by omega)
    have h2 := h k _ h1
    have h3 := sq_cap h2.1 h2.2
    have h4 := ih (by omega)
    rw [sqR_take h1]; omega
theorem sqS_cap {n : Nat} {M : List (List Int)} (h : sqM n 360 M) (hn : n ≤ 10) : ∀ k, k ≤ M.length → 0 ≤ sqS (M.take k) ∧ sqS (M.take k) ≤ 1296000 * k := by
  intro k
  induction k with
  | zero => intro _; simp [sqS]
  | succ k ih =>
    intro hk
    have h1 : M[k]? = some M[k] := List.getElem?_eq_getElem (by omega)
    have h2 := h.2 k _ h1
    have h3 := sqR_cap h2.2 M[k].length (Nat.le_refl _)
    rw [List.take_length] at h3
    have h4 := ih (by omega)
    rw [sqS_take h1]; omega
theorem planB_cap {n : Nat} {P : List (List Int)} (h : planB n P = true) : 2 ≤ n ∧ n ≤ 10 ∧ P.length ≤ 36 := by
  unfold planB clubsB at h
  simp only [Bool.and_eq_true] at h
  have h1 := inB_t.1 h.1.1
  have h2 : P.length ≤ 36 := by simpa using h.2.1
  omega
theorem sqM_all {n : Nat} {P : List (List Int)} (h : planB n P = true) {j : Nat} (hj : j ≤ P.length) : sqM n 360 (carR n P j) := by
  have h1 := planB_cap h
  refine (sqM_carR h j hj).wide ?_
  have : n * j ≤ 10 * 36 := Nat.mul_le_mul h1.2.1 (by omega)
  omega
def carV (n : Nat) (P : List (List Int)) : Int := if P = [] then -1 else sqS (carR n P P.length)
/-- "breaks " and " carry ". -/
def brkW : List UInt8 := [98, 114, 101, 97, 107, 115, 32]
def carW : List UInt8 := [32, 99, 97, 114, 114, 121, 32]
def planText (n : Int) (P : List (List Int)) : List UInt8 :=
  if planB n P then ((brkW ++ Lib.itoa (brkSum P n.toNat)) ++ carW) ++ Lib.itoa (carV n.toNat P) else [110, 111, 110, 101]
end Go.Proofs.YtofpaekokmkhgaaGreatDoor
namespace Go.Proofs.YtofpaekokmkhgaaGreatDoor
open Go.ChangeShapes Go.WideShapes Go.ChangeAt Go.RowKit

/-- An entry of a valid plan in memory. -/
theorem planCell {w : World} {A : Option Addr} {c n k r : Nat} {P : List (List Int)} (hpl : planB n P = true) (hs : InS w (.slice A P.length c) P) (hr : r < P.length) (hk : k < n) :
    ∃ b off b2 o2 c1 x, A = some ⟨b, off, none⟩ ∧ w.cell? ⟨b, off + r, none⟩ = some (.slice (some ⟨b2, o2, none⟩) n c1) ∧ w.cell? ⟨b2, o2 + k, none⟩ = some (.int .i64 x) ∧ elP P r k = x ∧ n ≤ c1 := by
  obtain ⟨b, off, u, R, rfl, hu, hcell, hin, -⟩ := hs.at_ (k := r) hr
  obtain ⟨A1, c1, rfl, hc1, hm1, hsl⟩ := hin
  have hl : R.length = n := by have := (planB_row hpl hu).2.2.1; omega
  obtain ⟨b2, o2, x, rfl, hx, hcx, -⟩ := hsl.at_ (k := k) (by omega)
  refine ⟨b, off, b2, o2, c1, x, rfl, by rw [hcell, hl], hcx, ?_, by omega⟩
  unfold elP
  rw [show P.getD r [] = R from by rw [List.getD_eq_getElem?_getD, hu]; rfl, List.getD_eq_getElem?_getD, hx]; rfl
theorem sgn_hm {P : List (List Int)} {r r' k : Nat} {x y s t : Int} (hx : elP P r k = x) (hy : elP P r' k = y) (hs : sgn x = s) (ht : sgn y = t) : (s == t) = decide (hmB P r k = hmB P r' k) := by
  unfold hmB
  rw [hx, hy, ← hs, ← ht]
  unfold sgn
  by_cases h1 : 0 < x <;> by_cases h2 : 0 < y <;> simp [h1, h2]
theorem pos_hm {P : List (List Int)} {r r' k : Nat} {x y : Int} (hx : elP P r k = x) (hy : elP P r' k = y) : (decide (0 < x) == decide (0 < y)) = decide (hmB P r k = hmB P r' k) := by
  unfold hmB
  rw [hx, hy]
  by_cases h1 : 0 < x <;> by_cases h2 : 0 < y <;> simp [h1, h2]

set_option maxRecDepth 100000 in
set_option maxHeartbeats 2000000 in
theorem implBreaks_any (v : Value) (P : List (List Int)) (n k : Nat) (w : World) (hs : InS w v P) (hpl : planB n P = true) (hk : k < n) :
    Calls Tryz.prog 40 #[v, .int .i64 k] w fun e w' => ∃ v', e = .returned v' ∧ (∃ A c, v' = .slice A (brkF P k) c) ∧ Below w.heap.size w w' := by
  have HS := Lib.hid hs
  obtain ⟨A, c, vs, rfl, hvl, hc, hm, -, -⟩ := hs
  have hcap := planB_cap hpl
  have HPL := Lib.hid hpl
  have HCE : Hid (∀ (wr : World) (r : Nat), InS wr (.slice A P.length c) P → r < P.length → ∃ b off b2 o2 c1 x, A = some ⟨b, off, none⟩ ∧ wr.cell? ⟨b, off + r, none⟩ = some (.slice (some ⟨b2, o2, none⟩) n c1) ∧ wr.cell? ⟨b2, o2 + k, none⟩ = some (.int .i64 x) ∧ elP P r k = x ∧ n ≤ c1) :=
    fun wr r h1 h2 => planCell hpl h1 h2 hk
  clear hpl
  generalize hN : P.length = N at *
  have HN := Lib.hid hN
  clear hN hvl
  unfold maxLen at hm
  go_enter Tryz.func40, Tryz.ntmps40
  go_wp2
  go_loopw [5, 6] (fun v i wr => ∃ (q : Nat) (fv : Value) (xs : List Int), 1 ≤ q ∧ i = .int .i64 q ∧ fv = v ∧ Hid ((q ≤ N ∨ q = 1) ∧ Fr wr w.heap.size wr.heap.size fv xs ∧ xs.length = brkTo P k (q - 1) ∧ Below w.heap.size w wr)) (fun _ i _ => N - (intOf i).toNat)
  case atStart => exact ⟨1, _, [], by omega, rfl, rfl, .inr rfl, Fr.nil _ (Nat.le_refl _), rfl, Below.refl _ _⟩
  case round =>
    obtain ⟨q, fv, xs, hq1, rfl, rfl, HR⟩ := hrel
    by_cases hlt : q < N
    case neg =>
      have HZ : Hid (xs.length = brkF P k) := by
        show _ = _
        rw [HR.out.2.2.1, brkF, HN.out]; congr 1; have := HR.out.1; omega
      go_wp2
      go_ret
      obtain ⟨A2, c2, h2, _⟩ := HR.out.2.1.form
      exact ⟨_, rfl, ⟨A2, c2, by rw [h2, HZ.out]; rfl⟩, HR.out.2.2.2⟩
    obtain ⟨j, hj⟩ : ∃ j, q = j + 1 := ⟨q - 1, by omega⟩
    have HJ := Lib.hid hj
    have hjl : j < N := by omega
    have J : IntKind.i64.wrap ((q : Int) - 1) = (j : Int) := by rw [IntKind.wrap_i64]; omega
    clear hj
    have hsW : InS wr (.slice A N c) P := InS.below HS.out HR.out.2.2.2
    obtain ⟨b, off, b2, o2, c1, x, rfl, hc1, hx1, HX, hn1⟩ := HCE.out wr q hsW hlt
    obtain ⟨b', off', b3, o3, c2, y, e3, hc2, hx2, HY, hn2⟩ := HCE.out wr j hsW hjl
    injection e3 with e3; injection e3 with r1 r2 _; subst r1; subst r2
    obtain ⟨s, hs⟩ : ∃ s, sgn x = s := ⟨_, rfl⟩
    obtain ⟨t, ht⟩ : ∃ t, sgn y = t := ⟨_, rfl⟩
    have HB : Hid ((s == t) = decide (hmB P q k = hmB P j k)) := sgn_hm HX HY hs ht
    have HSX := Lib.hid hs
    have HSY := Lib.hid ht
    have HXL : Hid (xs.length ≤ 36) := by show _ ≤ _; rw [HR.out.2.2.1]; have := brkTo_le P k (q - 1); omega
    have HQ1 : Hid (q - 1 = j ∧ brkTo P k (q + 1 - 1) = brkTo P k (j + 1)) := ⟨by have := HJ.out; omega, by rw [HJ.out]; rfl⟩
    clear hs ht HX HY hsW
    cases e : (s == t)
    case false =>
      have HW : Hid (brkTo P k (q + 1 - 1) = brkTo P k (q - 1)) := by
        show _ = _
        rw [HQ1.out.2, HQ1.out.1]
        exact brkTo_no (by have := HB.out; rw [e] at this; rw [← HJ.out]; simpa using this.symm)
      go_wp2
      go_quiet (first | (go_at_call 70; exact quiet_left (sign_any x s _ HSX.out)) | (go_at_call 70; exact quiet_left (sign_any y t _ HSY.out)))
      go_wp2
      go_roundw
      case rel => exact ⟨q + 1, fv, xs, by omega, by go_num, rfl, .inl (by omega), HR.out.2.1.drewN _, by rw [HW.out]; exact HR.out.2.2.1, below_drewN HR.out.2.2.2 _⟩
      case measure => simp [intOf]; omega
    · have HW : Hid (brkTo P k (q + 1 - 1) = brkTo P k (q - 1) + 1) := by
        show _ = _
        rw [HQ1.out.2, HQ1.out.1]
        exact brkTo_yes (by have := HB.out; rw [e] at this; rw [← HJ.out]; simpa using this.symm)
      go_wp2
      go_quiet (first | (go_at_call 70; exact quiet_left (sign_any x s _ HSX.out)) | (go_at_call 70; exact quiet_left (sign_any y t _ HSY.out)))
      go_wp2_with (at_builtin; refine app1 rfl _ _ rfl _ w.heap.size fv xs.length xs rfl ((HR.out.2.1.drewN _).own) (q : Int) rfl (by have := HXL.out; omega) (below_drewN HR.out.2.2.2 _).size ?_; intro v' w3 hown3 hb3 hsz3 _; have H3 : Hid (Fr w3 w.heap.size w3.heap.size v' (xs ++ [(q : Int)]) ∧ Below w.heap.size w w3) := ⟨Fr.of_own (by rw [List.length_append, List.length_singleton]; exact hown3), (below_drewN HR.out.2.2.2 _).trans (hb3 w.heap.size (Nat.le_refl _) (below_drewN HR.out.2.2.2 _).size)⟩; clear hown3 hb3 hsz3)
      go_roundw
      case rel => exact ⟨q + 1, _, xs ++ [(q : Int)], by omega, by go_num, rfl, .inl (by omega), H3.out.1, by rw [HW.out, List.length_append, List.length_singleton, HR.out.2.2.1], H3.out.2⟩
      case measure => simp [intOf]; omega

set_option maxHeartbeats 1000000 in
theorem implCountBreaks_any (v : Value) (P : List (List Int)) (n : Nat) (w : World) (hs : InS w v P) (hn : bulk P ≤ 1048576) (hpl : planB n P = true) :
    Calls Tryz.prog 19 #[.int .i64 n, v] w fun e w' => e = .returned (.int .i64 (brkSum P n)) ∧ Below w.heap.size w w' := by
  have HC := Lib.hid (implPlanOk_any n v P w hs hn)
  have HS := Lib.hid hs
  have hcap := planB_cap hpl
  have HSUM : Hid (∀ k, brkSum P k ≤ 36 * k) := fun k => brkSum_le P hcap.2.2 k
  have HPL := Lib.hid hpl
  clear hs hpl
  go_enter Tryz.func19, Tryz.ntmps19
  go_wp2_with (go_at_call 39; refine HC.out.mono ?_; rintro e w' ⟨rfl, d, rfl⟩; rw [HPL.out])
  have HB0 : Hid (Below w.heap.size w (w.drewN d)) := below_of_drewN _ _ _
  go_loopw [5, 12] (fun s i wr => ∃ k : Nat, k ≤ n ∧ i = .int .i64 k ∧ s = .int .i64 (brkSum P k) ∧ Hid (Below w.heap.size w wr)) (fun _ i _ => n - (intOf i).toNat)
  case atStart => exact ⟨0, Nat.zero_le _, rfl, rfl, HB0.out⟩
  case round =>
    obtain ⟨k, hk, rfl, rfl, HB⟩ := hrel
    by_cases hlt : k < n
    · have h1 := HSUM.out k
      have h2 := HSUM.out (k + 1)
      have HW : Hid (brkSum P (k + 1) = brkSum P k + brkF P k) := rfl
      rw [HW.out] at h2
      go_wp2_with (go_at_call 40; refine (implBreaks_any v P n k _ (InS.below HS.out HB.out) HPL.out hlt).mono ?_; rintro e w2 ⟨u, rfl, ⟨A1, c1, rfl⟩, hb⟩; have HB2 : Hid (Below w.heap.size w w2) := HB.out.trans (hb.mono HB.out.size); clear hb)
      go_roundw
      case rel => exact ⟨k + 1, by omega, by go_num, by rw [HW.out]; go_num, HB2.out⟩
      case measure => simp [intOf]; omega
    · obtain rfl : k = n := by omega
      go_wp2
      go_ret
      exact ⟨rfl, HB.out⟩
end Go.Proofs.YtofpaekokmkhgaaGreatDoor
