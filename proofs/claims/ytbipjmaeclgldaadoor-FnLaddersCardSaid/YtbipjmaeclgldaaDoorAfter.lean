/- The ladder after a challenge: contracts. -/
import Derived.Test.YtbipjmaeclgldaaDoorChal
namespace Go.Proofs.YtbipjmaeclgldaaDoor
open Go.ChangeShapes Go.WideShapes Go.ChangeAt Go.RowKit

theorem mayB_t {l : List Int} {r a b : Int} (h : mayB l r a b = true) : ladB l = true ∧ 0 ≤ plc l a ∧ 0 ≤ plc l b ∧ plc l b < plc l a := by
  simp only [mayB, Bool.and_eq_true, decide_eq_true_eq, inB_t] at h
  exact ⟨h.1, h.2.2.1, h.2.2.2.1, by omega⟩
def chOk (l : List Int) (r : Int) (g : List Int) : Bool := decide (g.length = 3) && (mayB l r (g.getD 0 0) (g.getD 1 0) && inB (g.getD 2 0) 0 1)
def chL (l : List Int) (r x y z : Int) : List Int := if mayB l r x y && inB z 0 1 then (if z = 0 then l else riseL l (plc l x).toNat (plc l y).toNat) else []
def chalF (l : List Int) (r : Int) (g : List Int) : List Int := if g.length = 3 then chL l r (g.getD 0 0) (g.getD 1 0) (g.getD 2 0) else []
theorem chalF_len {l : List Int} {r : Int} {g : List Int} {m : Nat} (h : l.length ≤ m) : (chalF l r g).length ≤ m := by
  unfold chalF
  split
  · unfold chL
    split
    · split
      · exact h
      · rename_i h2 h3 h4
        rw [Bool.and_eq_true] at h3
        obtain ⟨_, h5, h6, h7⟩ := mayB_t h3.1
        have hb := plc_bd l (g.getD 0 0)
        rw [riseL_length (by omega) (by omega)]; exact h
    · simp
  · simp
theorem three3 {g : List Int} (h : g.length = 3) : ∃ a b c, g = [a, b, c] := by
  match g, h with
  | [a, b, c], _ => exact ⟨a, b, c, rfl⟩
theorem still_of {P : Program} {f : FuncId} {args : Array Value} {w : World} {v : Value} (h : Calls P f args w fun e w' => e = .returned v ∧ w = w') : Calls P f args w fun e w' => e = .returned v ∧ w' = w :=
  h.mono fun _ _ ⟨h1, h2⟩ => ⟨h1, h2.symm⟩
set_option maxHeartbeats 2000000 in
set_option maxRecDepth 100000 in
theorem implAfterChallenge_std (vl : Value) (l : List Int) (r : Int) (vg : Value) (g : List Int) (w : World) (hl : InI w vl l) (nl : l.length ≤ 1048576) (_hr : (Lit.int .i64 r).wf = true) (hg : InI w vg g) (ng : g.length ≤ 1048576) :
    Calls Tryd.prog 21 #[vl, .int .i64 r, vg] w fun e w' => ∃ v', e = .returned (.tuple #[v', .bool (chOk l r g)]) ∧ Fr w' w.heap.size w'.heap.size v' (chalF l r g) ∧ Below w.heap.size w w' := by
  obtain ⟨A, c, rfl, hc, hm, hs⟩ := hl
  obtain ⟨G, d, rfl, hd, hmd, hsg⟩ := hg
  by_cases h3 : g.length = 3
  case neg =>
    have HF : Hid (chalF l r g = []) := by show _ = _; unfold chalF; rw [if_neg h3]
    have HO : Hid (chOk l r g = false) := by show _ = _; simp [chOk, h3]
    have d3 : ((g.length : Int) != 3) = true := by simp; omega
    clear h3 hs hsg
    generalize g.length = m at *
    generalize l.length = n at *
    go_enter Tryd.func21, Tryd.ntmps21
    go_wp2
    go_quiet (fail)
    all_goals go_wp2
    all_goals go_ret2
    all_goals exact ⟨_, by rw [HO.out]; rfl, by rw [HF.out]; exact Fr.nil _ (Nat.le_refl _), below_of_drewN _ _ _⟩
  obtain ⟨x, y, z, rfl⟩ := three3 h3
  clear h3
  obtain ⟨b, off, x', rfl, hx, hc0, _⟩ := hsg.at_ (k := 0) (by simp)
  obtain ⟨b', off', y', hA, hy, hc1, _⟩ := hsg.at_ (k := 1) (by simp)
  injection hA with hA; injection hA with e1 e2; subst e1; subst e2
  obtain ⟨b', off', z', hA, hz, hc2, _⟩ := hsg.at_ (k := 2) (by simp)
  injection hA with hA; injection hA with e1 e2; subst e1; subst e2
  simp at hx hy hz
  subst hx; subst hy; subst hz
  rw [Nat.add_zero] at hc0
  have h0 : Hid (chalF l r [x, y, z] = chL l r x y z) := rfl
  have h1 : Hid (chOk l r [x, y, z] = (mayB l r x y && inB z 0 1)) := rfl
  have HS := Lib.hid hs
  clear hsg hs
  have len3 : ([x, y, z] : List Int).length = 3 := rfl
  rw [len3] at hd
  cases hmy : mayB l r x y
  case false =>
    have HF : Hid (chalF l r [x, y, z] = []) := by show _ = _; rw [h0.out, chL, hmy]; rfl
    have HO : Hid (chOk l r [x, y, z] = false) := by show _ = _; rw [h1.out, hmy]; rfl
    clear h0 h1
    go_enter Tryd.func21, Tryd.ntmps21
    go_wp2
    go_quiet ((go_at_call 20; exact quiet_left (implMay_any A c l r x y _ (SlI.drewN HS.out _) nl hc)))
    all_goals go_wp2
    all_goals go_ret2
    all_goals exact ⟨_, by rw [HO.out]; rfl, by rw [HF.out]; exact Fr.nil _ (Nat.le_refl _), below_of_drewN _ _ _⟩
  cases hiz : inB z 0 1
  case false =>
    have HF : Hid (chalF l r [x, y, z] = []) := by show _ = _; rw [h0.out, chL, hiz, Bool.and_false]; rfl
    have HO : Hid (chOk l r [x, y, z] = false) := by show _ = _; rw [h1.out, hiz, Bool.and_false]
    clear h0 h1
    go_enter Tryd.func21, Tryd.ntmps21
    go_wp2
    go_quiet (first | (go_at_call 20; exact quiet_left (implMay_any A c l r x y _ (SlI.drewN HS.out _) nl hc)) | (go_at_call 26; exact quiet_left (within_any _ _ _ _)))
    all_goals go_wp2
    all_goals go_ret2
    all_goals exact ⟨_, by rw [HO.out]; rfl, by rw [HF.out]; exact Fr.nil _ (Nat.le_refl _), below_of_drewN _ _ _⟩
  have HO : Hid (chOk l r [x, y, z] = true) := by show _ = _; rw [h1.out, hmy, hiz]; rfl
  obtain ⟨hlad, p1, p2, p3⟩ := mayB_t hmy
  have HFZ : Hid (chalF l r [x, y, z] = if z = 0 then l else riseL l (plc l x).toNat (plc l y).toNat) := by show _ = _; rw [h0.out, chL, hmy, hiz]; rfl
  clear hlad h0 h1
  by_cases hz0 : z = 0
  · have dz : (z == 0) = true := by simp [hz0]
    have HF : Hid (chalF l r [x, y, z] = l) := by show _ = _; rw [HFZ.out, if_pos hz0]
    clear HFZ hz0
    go_enter Tryd.func21, Tryd.ntmps21
    go_wp2
    go_quiet (first | (go_at_call 20; exact quiet_left (implMay_any A c l r x y _ (SlI.drewN HS.out _) nl hc)) | (go_at_call 26; exact quiet_left (within_any _ _ _ _)))
    have W1 : Hid (SlI (w.drewN nq) A l ∧ Below w.heap.size w (w.drewN nq) ∧ (w.drewN nq).heap.size = w.heap.size) := ⟨HS.out, below_of_drewN _ _ _, rfl⟩
    have c2 : (w.drewN nq).cell? ⟨b, off + 2, none⟩ = some (.int .i64 z) := hc2
    generalize w.drewN nq = w1 at *
    go_wp2_with fail
    refine (cloneI_any A c l w1 W1.out.1 nl).mono ?_
    rintro e w2 ⟨A2, k2, rfl, hf2, hb2⟩
    have F2 : Hid (Fr w2 w.heap.size w2.heap.size (.slice A2 l.length k2) l ∧ Below w.heap.size w w2) := ⟨by rw [← W1.out.2.2]; exact hf2, W1.out.2.1.trans (by rw [← W1.out.2.2]; exact hb2)⟩
    clear hf2 hb2
    go_wp2
    go_ret2
    exact ⟨_, by rw [HO.out]; rfl, by rw [HF.out]; exact F2.out.1, F2.out.2⟩
  · have dz : (z == 0) = false := by simp [hz0]
    have HF : Hid (chalF l r [x, y, z] = riseL l (plc l x).toNat (plc l y).toNat) := by show _ = _; rw [HFZ.out, if_neg hz0]
    clear HFZ hz0
    have b1 := plc_bd l x
    obtain ⟨lo, hlo⟩ := Int.eq_ofNat_of_zero_le p1
    obtain ⟨up, hup⟩ := Int.eq_ofNat_of_zero_le p2
    rw [hlo, hup, Int.toNat_natCast, Int.toNat_natCast] at HF
    rw [hlo, hup] at p3
    rw [hlo] at b1
    have LO := Lib.hid hlo
    have UP := Lib.hid hup
    clear p1 p2 hlo hup
    go_enter Tryd.func21, Tryd.ntmps21
    go_wp2
    go_quiet (first | (go_at_call 20; exact quiet_left (implMay_any A c l r x y _ (SlI.drewN HS.out _) nl hc)) | (go_at_call 26; exact quiet_left (within_any _ _ _ _)))
    have W1 : Hid (SlI (w.drewN nq) A l ∧ Below w.heap.size w (w.drewN nq) ∧ (w.drewN nq).heap.size = w.heap.size) := ⟨HS.out, below_of_drewN _ _ _, rfl⟩
    have d0 : (w.drewN nq).cell? ⟨b, off, none⟩ = some (.int .i64 x) := hc0
    have d1 : (w.drewN nq).cell? ⟨b, off + 1, none⟩ = some (.int .i64 y) := hc1
    have d2 : (w.drewN nq).cell? ⟨b, off + 2, none⟩ = some (.int .i64 z) := hc2
    generalize w.drewN nq = w1 at *
    go_wp2
    refine wp_region_still_tail 11 (by kernel_rfl) (by kernel_rfl) ?_
    simp only [List.take_succ_cons, List.take_zero, List.drop_succ_cons, List.drop_zero]
    have I1 := Lib.hid (still_of (indexI_any A c l x w1.drew W1.out.1 nl))
    have I2 := Lib.hid (still_of (indexI_any A c l y w1.drew W1.out.1 nl))
    rw [LO.out] at I1
    rw [UP.out] at I2
    repeat still_step
    still_call I1.out
    repeat still_step
    still_call I2.out
    repeat still_step
    refine wpStill_nil ?_
    change wpList _ _ _ _ _ w1.drew
    have W2 : Hid (SlI w1.drew A l ∧ Below w.heap.size w w1.drew ∧ w1.drew.heap.size = w.heap.size) := ⟨W1.out.1, W1.out.2.1.trans (below_drewN (Below.refl _ w1) 1), W1.out.2.2⟩
    clear d0 d1 d2 I1 I2 W1
    generalize w1.drew = w3 at *
    go_wp2_with fail
    refine (risen_any A c l lo up w3 W2.out.1 nl (by omega) (by omega)).mono ?_
    rintro e w4 ⟨v4, rfl, hf4, hb4⟩
    have F4 : Hid (Fr w4 w.heap.size w4.heap.size v4 (riseL l lo up) ∧ Below w.heap.size w w4) := ⟨by rw [← W2.out.2.2]; exact hf4, W2.out.2.1.trans (by rw [← W2.out.2.2]; exact hb4)⟩
    clear hf4 hb4
    go_wp2
    go_ret2
    exact ⟨_, by rw [HO.out]; rfl, by rw [HF.out]; exact F4.out.1, F4.out.2⟩
end Go.Proofs.YtbipjmaeclgldaaDoor
