/- Ratings: contracts of AfterAll, AtOnce, PerformanceOf and SumOfRatings. -/
import Derived.Test.YtihoflfokiijdaaRateS
namespace Go.Proofs.Ytihoflfokiijdaa
open Go.ChangeShapes Go.WideShapes Go.ChangeAt Go.RowKit

set_option maxRecDepth 100000 in
set_option maxHeartbeats 4000000 in
theorem implAfterAll_std (vr : Value) (r : List Int) (vg : Value) (gs : List (List Int)) (f : Int) (w : World) (hr : InI w vr r) (nr : r.length ≤ 1048576) (hg : InS w vg gs) (ng : bulk gs ≤ 1048576) (_nf : (Lit.int .i64 f).wf = true) :
    Calls Try.prog 6 #[vr, vg, .int .i64 f] w fun e w' => ∃ v', e = .returned v' ∧ Fr w' w.heap.size w'.heap.size v' (afterAllF r gs f) ∧ Below w.heap.size w w' := by
  have HR := Lib.hid hr
  have HS := Lib.hid hg
  obtain ⟨A, c, rfl, _, _, hrs⟩ := hr
  obtain ⟨G, d, _, rfl, -⟩ := hg
  have HRS := Lib.hid hrs
  clear hrs
  have hg20 : gs.length ≤ 1048576 := by have := bulk_len gs; omega
  have HB : Hid (Below w.heap.size w w) := Below.refl _ _
  have HW : Hid ((Lit.int .i64 (r.length : Int)).wf = true) := WalkArith.wf_i64 (by omega)
  cases c0 : ratOk r
  · go_enter Try.func6, Try.ntmps6
    go_wp2_with fail
    refine (implRatingsOk_std _ r _ (HR.out.below HB.out) nr).mono ?_
    rintro e wa ⟨rfl, hb⟩
    rw [c0]
    have HB := Lib.hid (HB.out.trans (hb.mono HB.out.size))
    clear hb
    go_wp2
    go_ret
    refine ⟨_, rfl, ?_, HB.out⟩
    have hz : afterAllF r gs f = [] := by unfold afterAllF ratesOk; simp [c0]
    rw [hz]; exact Fr.nil _ (Nat.le_refl _)
  cases c1 : gamesOk r.length gs
  · go_enter Try.func6, Try.ntmps6
    go_wp2_with fail
    refine (implRatingsOk_std _ r _ (HR.out.below HB.out) nr).mono ?_
    rintro e wa ⟨rfl, hb⟩
    rw [c0]
    have HB := Lib.hid (HB.out.trans (hb.mono HB.out.size))
    clear hb
    go_wp2_with fail
    refine (implGamesRated_std (r.length : Int) _ gs _ HW.out (HS.out.below HB.out) ng).mono ?_
    rintro e wb ⟨rfl, hb⟩
    rw [c1]
    have HB := Lib.hid (HB.out.trans (hb.mono HB.out.size))
    clear hb
    go_wp2
    go_ret
    refine ⟨_, rfl, ?_, HB.out⟩
    have hz : afterAllF r gs f = [] := by unfold afterAllF ratesOk; simp [c0, c1]
    rw [hz]; exact Fr.nil _ (Nat.le_refl _)
  cases c2 : inB f 1 100
  · go_enter Try.func6, Try.ntmps6
    go_wp2_with fail
    refine (implRatingsOk_std _ r _ (HR.out.below HB.out) nr).mono ?_
    rintro e wa ⟨rfl, hb⟩
    rw [c0]
    have HB := Lib.hid (HB.out.trans (hb.mono HB.out.size))
    clear hb
    go_wp2_with fail
    refine (implGamesRated_std (r.length : Int) _ gs _ HW.out (HS.out.below HB.out) ng).mono ?_
    rintro e wb ⟨rfl, hb⟩
    rw [c1]
    have HB := Lib.hid (HB.out.trans (hb.mono HB.out.size))
    clear hb
    go_wp2_with (go_at_call 20; refine (within_any _ _ _ _).mono ?_; rintro e w' ⟨rfl, rfl⟩)
    go_ret
    refine ⟨_, rfl, ?_, HB.out⟩
    have hz : afterAllF r gs f = [] := by unfold afterAllF ratesOk; simp [c0, c1, c2]
    rw [hz]; exact Fr.nil _ (Nat.le_refl _)
  go_enter Try.func6, Try.ntmps6
  go_wp2_with fail
  refine (implRatingsOk_std _ r _ (HR.out.below HB.out) nr).mono ?_
  rintro e wa ⟨rfl, hb⟩
  rw [c0]
  have HB := Lib.hid (HB.out.trans (hb.mono HB.out.size))
  clear hb
  go_wp2_with fail
  refine (implGamesRated_std (r.length : Int) _ gs _ HW.out (HS.out.below HB.out) ng).mono ?_
  rintro e wb ⟨rfl, hb⟩
  rw [c1]
  have HB := Lib.hid (HB.out.trans (hb.mono HB.out.size))
  clear hb
  go_wp2_with (go_at_call 20; refine (within_any _ _ _ _).mono ?_; rintro e w' ⟨rfl, rfl⟩)
  obtain ⟨hf1, hf2⟩ := inB_t.1 c2
  have HE : Hid (afterAllF r gs f = afterGs r f gs) := by show _ = _; unfold afterAllF ratesOk; simp [c0, c1, c2]
  have CG := Lib.hid c1
  have CR := Lib.hid c0
  have hl8 := (ratOk_t.1 c0).1
  go_wp2_with fail
  refine (cloneI_any A c r _ (HRS.out.below HB.out) nr).mono ?_
  rintro e wd ⟨A1, c1', rfl, hfr, hb⟩
  have HF := Lib.hid (hfr.wide HB.out.size (Nat.le_refl _) (Nat.le_refl _))
  have HB := Lib.hid (HB.out.trans (hb.mono HB.out.size))
  clear hfr hb
  go_wp2
  go_loopw [7, 29] (fun v i wr => ∃ j : Nat, j ≤ gs.length ∧ i = .int .i64 j ∧ Hid (Fr wr w.heap.size wr.heap.size v (afterGs r f (gs.take j)) ∧ Below w.heap.size w wr)) (fun _ i _ => gs.length - (intOf i).toNat)
  case atStart => exact ⟨0, Nat.zero_le _, rfl, HF.out, HB.out⟩
  case round =>
    obtain ⟨j, hj, rfl, HQ⟩ := hrel
    clear HF HB
    by_cases hlt : j < gs.length
    · obtain ⟨hfr, hbl⟩ := HQ.out
      obtain ⟨b, off, u, g, rfl, hx1, hx2, hin, _⟩ := (HS.out.below hbl).at_ (k := j) hlt
      obtain ⟨A', c', rfl, _, _, hin⟩ := hin
      obtain ⟨A2, c2, rfl, _⟩ := hfr.form
      have hgo : gameOk (afterGs r f (gs.take j)).length g = true := by
        rw [afterGs_len]; exact gamesOk_mem CG.out (List.mem_of_getElem? hx1)
      have hc := afterGame_any A2 A' c2 c' (afterGs r f (gs.take j)) g f wr hfr.sl hin (afterGs_ok f _ CR.out) hgo hf1 hf2
      have HX := Lib.hid hx1
      have HC := Lib.hid hc
      have HFR := Lib.hid hfr
      have HBL := Lib.hid hbl
      clear hx1 hc hfr hbl hin hgo HQ
      go_wp2_with fail
      refine HC.out.mono ?_
      rintro e w2 ⟨A3, c3, rfl, hfr3, hb3⟩
      have H3 := Lib.hid (hfr3.wide HBL.out.size (Nat.le_refl _) (Nat.le_refl _))
      have HB3 := Lib.hid (HBL.out.trans (hb3.mono HBL.out.size))
      clear hfr3 hb3
      go_wp2
      go_roundw
      case rel =>
        refine ⟨j + 1, by omega, by go_num, ?_, HB3.out⟩
        rw [take_snoc HX.out, afterGs_snoc]; exact H3.out
      case measure => simp [intOf]; omega
    · obtain rfl : j = gs.length := by omega
      go_wp2
      go_ret
      have h := HQ.out.1
      rw [List.take_of_length_le (Nat.le_refl _)] at h
      exact ⟨_, rfl, by rw [HE.out]; exact h, HQ.out.2⟩

theorem implSumOfRatings_std (vr : Value) (r : List Int) (w : World) (hr : InI w vr r) (nr : r.length ≤ 1048576) :
    Calls Try.prog 10 #[vr] w fun e w' => e = .returned (.int .i64 (sumRF r)) ∧ Below w.heap.size w w' := by
  have HR := Lib.hid hr
  obtain ⟨A, c, rfl, _, _, hs⟩ := hr
  have HS := Lib.hid hs
  clear hs
  cases c0 : ratOk r
  · go_enter Try.func10, Try.ntmps10
    go_wp2_with fail
    refine (implRatingsOk_std _ r _ HR.out nr).mono ?_
    rintro e wa ⟨rfl, hb⟩
    rw [c0]
    have HB := Lib.hid hb
    clear hb
    go_wp2
    go_ret
    exact ⟨by simp [sumRF, c0], HB.out⟩
  · go_enter Try.func10, Try.ntmps10
    go_wp2_with fail
    refine (implRatingsOk_std _ r _ HR.out nr).mono ?_
    rintro e wa ⟨rfl, hb⟩
    rw [c0]
    have HB := Lib.hid hb
    clear hb
    go_wp2_with fail
    refine (sumOf_any A c r _ (HS.out.below HB.out) nr (sumB_ok c0)).mono ?_
    rintro e w' ⟨rfl, rfl⟩
    go_wp2
    go_ret
    exact ⟨by simp [sumRF, c0], HB.out⟩

def onceStep (r : List Int) (f : Int) (acc g : List Int) : List Int := match g with
  | [a, b, h] => (acc.set a.toNat (acc.getD a.toNat 0 + chg (r.getD a.toNat 0) (r.getD b.toNat 0) h f)).set b.toNat (acc.getD b.toNat 0 - chg (r.getD a.toNat 0) (r.getD b.toNat 0) h f)
  | _ => acc
theorem onceStep_len (r : List Int) (f : Int) (acc g : List Int) : (onceStep r f acc g).length = acc.length := by
  unfold onceStep; split
  · simp
  · rfl
theorem onceStep_at {r acc : List Int} {i j : Nat} {h f x y x' y' : Int} (hx : r[i]? = some x) (hy : r[j]? = some y) (hx' : acc[i]? = some x') (hy' : acc[j]? = some y') :
    onceStep r f acc [(i : Int), (j : Int), h] = (acc.set i (x' + chg x y h f)).set j (y' - chg x y h f) := by
  simp only [onceStep, Int.toNat_natCast, List.getD_eq_getElem?_getD, hx, hy, hx', hy', Option.getD_some]
def onceG (r : List Int) (f : Int) (gs : List (List Int)) : List Int := gs.foldl (onceStep r f) r
theorem onceG_snoc (r : List Int) (f : Int) (gs : List (List Int)) (g : List Int) : onceG r f (gs ++ [g]) = onceStep r f (onceG r f gs) g := by
  simp [onceG, List.foldl_append]
theorem onceG_len (r : List Int) (f : Int) (gs : List (List Int)) : (onceG r f gs).length = r.length := by
  suffices h : ∀ acc : List Int, (gs.foldl (onceStep r f) acc).length = acc.length from h r
  induction gs with
  | nil => intro acc; rfl
  | cons g gs ih => intro acc; rw [List.foldl_cons, ih, onceStep_len]
def onceF (r : List Int) (gs : List (List Int)) (f : Int) : List Int := if ratesOk r gs f then (if ratOk (onceG r f gs) then onceG r f gs else []) else []
theorem onceF_len {r : List Int} {gs : List (List Int)} {f : Int} (h : r.length ≤ 1048576) : (onceF r gs f).length ≤ 1048576 := by
  unfold onceF; split
  · split
    · rw [onceG_len]; exact h
    · simp
  · simp
def within95 (acc : List Int) (m : Nat) : Prop := ∀ x ∈ acc, -(95 * (m : Int)) ≤ x ∧ x ≤ 4000 + 95 * (m : Int)
theorem within95_set {acc : List Int} {m i j : Nat} {u v : Int} (h : within95 acc m) (hu : -(95 * ((m : Int) + 1)) ≤ u ∧ u ≤ 4000 + 95 * ((m : Int) + 1)) (hv : -(95 * ((m : Int) + 1)) ≤ v ∧ v ≤ 4000 + 95 * ((m : Int) + 1)) : within95 ((acc.set i u).set j v) (m + 1) := by
  intro x hx
  rw [Int.natCast_add, Int.natCast_one]
  rcases List.mem_or_eq_of_mem_set hx with hx | rfl
  · rcases List.mem_or_eq_of_mem_set hx with hx | rfl
    · have := h x hx; omega
    · exact hu
  · exact hv
theorem within95_start {r : List Int} (h : ratOk r = true) : within95 r 0 := by
  intro x hx
  have := isR_t.1 ((ratOk_t.1 h).2 x hx)
  simp; omega

set_option maxRecDepth 100000 in
set_option maxHeartbeats 4000000 in
theorem implAtOnce_std (vr : Value) (r : List Int) (vg : Value) (gs : List (List Int)) (f : Int) (w : World) (hr : InI w vr r) (nr : r.length ≤ 1048576) (hg : InS w vg gs) (ng : bulk gs ≤ 1048576) (_nf : (Lit.int .i64 f).wf = true) :
    Calls Try.prog 7 #[vr, vg, .int .i64 f] w fun e w' => ∃ v', e = .returned v' ∧ Fr w' w.heap.size w'.heap.size v' (onceF r gs f) ∧ Below w.heap.size w w' := by
  have HR := Lib.hid hr
  have HS := Lib.hid hg
  obtain ⟨A, c, rfl, _, _, hrs⟩ := hr
  obtain ⟨G, d, _, rfl, -⟩ := hg
  have HRS := Lib.hid hrs
  clear hrs
  have hg20 : gs.length ≤ 1048576 := by have := bulk_len gs; omega
  have HB : Hid (Below w.heap.size w w) := Below.refl _ _
  have HW : Hid ((Lit.int .i64 (r.length : Int)).wf = true) := WalkArith.wf_i64 (by omega)
  cases c0 : ratOk r
  · go_enter Try.func7, Try.ntmps7
    go_wp2_with fail
    refine (implRatingsOk_std _ r _ (HR.out.below HB.out) nr).mono ?_
    rintro e wa ⟨rfl, hb⟩
    rw [c0]
    have HB := Lib.hid (HB.out.trans (hb.mono HB.out.size))
    clear hb
    go_wp2
    go_ret
    refine ⟨_, rfl, ?_, HB.out⟩
    have hz : onceF r gs f = [] := by unfold onceF ratesOk; simp [c0]
    rw [hz]; exact Fr.nil _ (Nat.le_refl _)
  cases c1 : gamesOk r.length gs
  · go_enter Try.func7, Try.ntmps7
    go_wp2_with fail
    refine (implRatingsOk_std _ r _ (HR.out.below HB.out) nr).mono ?_
    rintro e wa ⟨rfl, hb⟩
    rw [c0]
    have HB := Lib.hid (HB.out.trans (hb.mono HB.out.size))
    clear hb
    go_wp2_with fail
    refine (implGamesRated_std (r.length : Int) _ gs _ HW.out (HS.out.below HB.out) ng).mono ?_
    rintro e wb ⟨rfl, hb⟩
    rw [c1]
    have HB := Lib.hid (HB.out.trans (hb.mono HB.out.size))
    clear hb
    go_wp2
    go_ret
    refine ⟨_, rfl, ?_, HB.out⟩
    have hz : onceF r gs f = [] := by unfold onceF ratesOk; simp [c0, c1]
    rw [hz]; exact Fr.nil _ (Nat.le_refl _)
  cases c2 : inB f 1 100
  · go_enter Try.func7, Try.ntmps7
    go_wp2_with fail
    refine (implRatingsOk_std _ r _ (HR.out.below HB.out) nr).mono ?_
    rintro e wa ⟨rfl, hb⟩
    rw [c0]
    have HB := Lib.hid (HB.out.trans (hb.mono HB.out.size))
    clear hb
    go_wp2_with fail
    refine (implGamesRated_std (r.length : Int) _ gs _ HW.out (HS.out.below HB.out) ng).mono ?_
    rintro e wb ⟨rfl, hb⟩
    rw [c1]
    have HB := Lib.hid (HB.out.trans (hb.mono HB.out.size))
    clear hb
    go_wp2_with (go_at_call 20; refine (within_any _ _ _ _).mono ?_; rintro e w' ⟨rfl, rfl⟩)
    go_ret
    refine ⟨_, rfl, ?_, HB.out⟩
    have hz : onceF r gs f = [] := by unfold onceF ratesOk; simp [c0, c1, c2]
    rw [hz]; exact Fr.nil _ (Nat.le_refl _)
  go_enter Try.func7, Try.ntmps7
  go_wp2_with fail
  refine (implRatingsOk_std _ r _ (HR.out.below HB.out) nr).mono ?_
  rintro e wa ⟨rfl, hb⟩
  rw [c0]
  have HB := Lib.hid (HB.out.trans (hb.mono HB.out.size))
  clear hb
  go_wp2_with fail
  refine (implGamesRated_std (r.length : Int) _ gs _ HW.out (HS.out.below HB.out) ng).mono ?_
  rintro e wb ⟨rfl, hb⟩
  rw [c1]
  have HB := Lib.hid (HB.out.trans (hb.mono HB.out.size))
  clear hb
  go_wp2_with (go_at_call 20; refine (within_any _ _ _ _).mono ?_; rintro e w' ⟨rfl, rfl⟩)
  obtain ⟨hf1, hf2⟩ := inB_t.1 c2
  have HE : Hid (onceF r gs f = (if ratOk (onceG r f gs) then onceG r f gs else [])) := by show _ = _; unfold onceF ratesOk; simp [c0, c1, c2]
  have CG := Lib.hid c1
  have CR := Lib.hid c0
  have hl8 := (ratOk_t.1 c0).1
  go_wp2_with fail
  refine (cloneI_any A c r _ (HRS.out.below HB.out) nr).mono ?_
  rintro e wd ⟨A1, c1', rfl, hfr, hb⟩
  have HF := Lib.hid (hfr.wide HB.out.size (Nat.le_refl _) (Nat.le_refl _))
  have HB := Lib.hid (HB.out.trans (hb.mono HB.out.size))
  clear hfr hb
  go_wp2
  obtain ⟨g0, _, hA1, hg1, hg2, _⟩ := HF.out.at_ (k := 0) (by omega)
  obtain rfl := hA1
  go_loopw [30] (fun i wr => ∃ j : Nat, j ≤ gs.length ∧ i = .int .i64 j ∧ Hid (Fr wr w.heap.size wr.heap.size (.slice (some ⟨g0, 0, none⟩) r.length c1') (onceG r f (gs.take j)) ∧ Below w.heap.size w wr ∧ within95 (onceG r f (gs.take j)) j)) (fun i _ => gs.length - (intOf i).toNat)
  case atStart => exact ⟨0, Nat.zero_le _, rfl, HF.out, HB.out, within95_start CR.out⟩
  case round =>
    obtain ⟨m, hm, rfl, HQ⟩ := hrel
    clear HF HB
    by_cases hlt : m < gs.length
    · obtain ⟨hfr, hbl, hw95⟩ := HQ.out
      obtain ⟨bg, og, u, g, rfl, hx1, hx2, hin, hbg⟩ := HS.out.at_ (k := m) hlt
      obtain ⟨A', c', rfl, _, _, hin⟩ := hin
      have hgo : gameOk r.length g = true := gamesOk_mem CG.out (List.mem_of_getElem? hx1)
      have hm40 := gamesOk_len CG.out
      have hall := (ratOk_t.1 CR.out).2
      obtain ⟨i, j, h, x, y, b, off, b', off', rfl, hA, rfl, hi, hj, hij, h0, h2, hx, hy, hb, hb', cx, cy, cg0, cg1, cg2⟩ := gameSetup HRS.out hin hgo
      subst hA
      obtain ⟨x1, x2⟩ := isR_t.1 (hall x (List.mem_of_getElem? hx))
      obtain ⟨y1, y2⟩ := isR_t.1 (hall y (List.mem_of_getElem? hy))
      obtain ⟨d1, d2⟩ := chg_bd x y h f h0 h2 hf1 hf2
      have hol := onceG_len r f (gs.take m)
      obtain ⟨g0', x', hA2, _, hg3, hx', cx1, fx1, _⟩ := hfr.at_ (k := i) (by omega)
      injection hA2 with hA2; injection hA2 with e1; subst e1
      obtain ⟨g0', y', hA2, _, _, hy', cy1, fy1, _⟩ := hfr.at_ (k := j) (by omega)
      injection hA2 with hA2; injection hA2 with e1; subst e1
      obtain ⟨wx1, wx2⟩ := hw95 x' (List.mem_of_getElem? hx')
      obtain ⟨wy1, wy2⟩ := hw95 y' (List.mem_of_getElem? hy')
      have cx2 := (hbl.cell (p := ⟨b, off + i, none⟩) hb).trans cx
      have cy2 := (hbl.cell (p := ⟨b, off + j, none⟩) hb).trans cy
      have cg0' := (hbl.cell (p := ⟨b', off', none⟩) hb').trans cg0
      have cg1' := (hbl.cell (p := ⟨b', off' + 1, none⟩) hb').trans cg1
      have cg2' := (hbl.cell (p := ⟨b', off' + 2, none⟩) hb').trans cg2
      have cu := (hbl.cell (p := ⟨bg, og + m, none⟩) hbg).trans hx2
      have hne : b' ≠ g0 := by omega
      have HST : Hid (onceG r f (gs.take (m + 1)) = ((onceG r f (gs.take m)).set i (x' + chg x y h f)).set j (y' - chg x y h f)) := by
        show _ = _
        rw [take_snoc hx1, onceG_snoc, onceStep_at hx hy hx' hy']
      have HW96 : Hid (within95 (onceG r f (gs.take (m + 1))) (m + 1)) := by
        show within95 _ _
        rw [HST.out]
        exact within95_set hw95 ⟨by omega, by omega⟩ ⟨by omega, by omega⟩
      have HFR := Lib.hid hfr
      have HBL := Lib.hid hbl
      have HOL := Lib.hid hol
      clear hx1 hfr hbl hw95 hin hgo hall hx hy hx' hy' HQ hol cx cy cg0 cg1 cg2 hx2
      go_wp2
      go_quiet ((go_at_call 23; exact quiet_left (change_any _ _ _ _ _ (by omega) (by omega) (by omega) (by omega) (by omega) (by omega) (by omega) (by omega))))
      generalize hw2 : wr.drewN nq = w2
      have e1 : w2.cell? ⟨g0, i, none⟩ = some (.int .i64 x') := by rw [← hw2]; exact cx1
      have e2 : w2.cell? ⟨g0, j, none⟩ = some (.int .i64 y') := by rw [← hw2]; exact cy1
      have e3 : w2.frozen? ⟨g0, i, none⟩ = false := by rw [← hw2]; exact fx1
      have e4 : w2.frozen? ⟨g0, j, none⟩ = false := by rw [← hw2]; exact fy1
      have e5 : w2.cell? ⟨b', off', none⟩ = some (.int .i64 i) := by rw [← hw2]; exact cg0'
      have e6 : w2.cell? ⟨b', off' + 1, none⟩ = some (.int .i64 j) := by rw [← hw2]; exact cg1'
      have HB2 : Hid (Below w.heap.size w w2) := by rw [← hw2]; exact below_drewN HBL.out nq
      have HF2 : Hid (Fr w2 w.heap.size w2.heap.size (.slice (some ⟨g0, 0, none⟩) r.length c1') (onceG r f (gs.take m))) := by rw [← hw2]; exact HFR.out
      clear cx1 cy1 fx1 fy1 cx2 cy2 cg0' cg1' cg2' hw2 cu
      have HEND : Hid (Fr ((w2.setCell ⟨g0, i, none⟩ (.int .i64 (x' + chg x y h f))).setCell ⟨g0, j, none⟩ (.int .i64 (y' - chg x y h f))) w.heap.size w2.heap.size (.slice (some ⟨g0, 0, none⟩) r.length c1') (onceG r f (gs.take (m + 1))) ∧
          Keep w.heap.size w2.heap.size w2 ((w2.setCell ⟨g0, i, none⟩ (.int .i64 (x' + chg x y h f))).setCell ⟨g0, j, none⟩ (.int .i64 (y' - chg x y h f)))) := by
        show _ ∧ _
        rw [HST.out]
        have hol := HOL.out
        obtain ⟨g1, _, hA, _, _, _, _, _, hs1⟩ := HF2.out.at_ (k := i) (by omega)
        injection hA with hA; injection hA with hA; subst hA
        obtain ⟨F3, K3⟩ := hs1 (x' + chg x y h f)
        obtain ⟨g1, _, hA, _, _, _, _, _, hs2⟩ := F3.at_ (k := j) (by rw [List.length_set]; omega)
        injection hA with hA; injection hA with hA; subst hA
        obtain ⟨F4, K4⟩ := hs2 (y' - chg x y h f)
        exact ⟨F4, K3.trans (K4.wide (Nat.le_refl _) (Nat.le_refl _))⟩
      go_wp2
      all_goals go_roundw
      case rel =>
        have hz := HEND.out.2.size
        have hbz := HB2.out.trans (HEND.out.2.below (Nat.le_refl _) HB2.out.size)
        have hf1 := HEND.out.1.wide (Nat.le_refl _) hz (Nat.le_refl _)
        exact ⟨m + 1, by omega, by go_num, hf1, ⟨hbz.os, hbz.tape, hbz.output, hbz.size, hbz.block⟩, HW96.out⟩
      case measure => simp [intOf]; omega
    · obtain rfl : m = gs.length := by omega
      obtain ⟨hfr, hbl, _⟩ := HQ.out
      rw [List.take_of_length_le (Nat.le_refl _)] at hfr
      have hol := onceG_len r f gs
      have HFR := Lib.hid hfr
      have HBL := Lib.hid hbl
      clear hfr hbl HQ
      go_wp2_with fail
      refine (implRatingsOk_std _ (onceG r f gs) _ HFR.out.in_ (by omega)).mono ?_
      rintro e w5 ⟨rfl, hb5⟩
      have HF5 := Lib.hid (HFR.out.grow hb5)
      have HB5 := Lib.hid (HBL.out.trans (hb5.mono HBL.out.size))
      have HZ := Lib.hid hb5.size
      clear hb5
      cases hfin : ratOk (onceG r f gs)
      · have HE2 : Hid (onceF r gs f = []) := by show _ = _; rw [HE.out, hfin]; rfl
        go_wp2
        go_ret
        exact ⟨_, rfl, by rw [HE2.out]; exact Fr.nil _ (Nat.le_refl _), HB5.out⟩
      · have HE2 : Hid (onceF r gs f = onceG r f gs) := by show _ = _; rw [HE.out, hfin]; rfl
        go_wp2
        go_ret
        exact ⟨_, rfl, by rw [HE2.out]; exact HF5.out.wide (Nat.le_refl _) HZ.out (Nat.le_refl _), HB5.out⟩

def perfStep (r : List Int) (k x : Int) (g : List Int) : Int := match g with
  | [a, b, h] => if a = k then expd x (r.getD b.toNat 0) - 500 * h else if b = k then expd x (r.getD a.toNat 0) - 500 * (2 - h) else 0
  | _ => 0
def perfSum (r : List Int) (gs : List (List Int)) (k x : Int) : Int := (gs.map (perfStep r k x)).sum
theorem perfSum_snoc {r : List Int} {gs : List (List Int)} {m : Nat} {g : List Int} (k x : Int) (h : gs[m]? = some g) : perfSum r (gs.take (m + 1)) k x = perfSum r (gs.take m) k x + perfStep r k x g := by
  rw [take_snoc h]; simp [perfSum]
theorem perfStep_bd {n : Int} {g : List Int} (r : List Int) (k x : Int) (h : gameOk n g = true) : -950 ≤ perfStep r k x g ∧ perfStep r k x g ≤ 950 := by
  obtain ⟨a, b, c, rfl, _, _, _, _, _, h6, h7⟩ := gameOk_t h
  unfold perfStep
  dsimp only
  split
  · have := expd_bd x (r.getD b.toNat 0); omega
  · split
    · have := expd_bd x (r.getD a.toNat 0); omega
    · omega
theorem perfSum_bd {n : Int} {gs : List (List Int)} (r : List Int) (k x : Int) (h : ∀ g ∈ gs, gameOk n g = true) : ∀ m, m ≤ gs.length → -950 * (m : Int) ≤ perfSum r (gs.take m) k x ∧ perfSum r (gs.take m) k x ≤ 950 * (m : Int) := by
  intro m
  induction m with
  | zero => intro _; simp [perfSum]
  | succ m ih =>
    intro hm
    have ih := ih (by omega)
    have hg : gs[m]? = some gs[m] := List.getElem?_eq_getElem (by omega)
    have := perfStep_bd r k x (h gs[m] (List.getElem_mem _))
    rw [perfSum_snoc k x hg]; omega
def perfG (r : List Int) (gs : List (List Int)) (k : Int) : Int := match (List.range 4000).find? (fun (x : Nat) => decide (0 ≤ perfSum r gs k (x : Int))) with
  | some x => (x : Int)
  | none => 4000
def perfF (r : List Int) (gs : List (List Int)) (k : Int) : Int := if ratOk r && gamesOk r.length gs && inB k 0 ((r.length : Int) - 1) then perfG r gs k else -1
theorem perfG_hit {r : List Int} {gs : List (List Int)} {k : Int} {x : Nat} (hx : x < 4000) (h : ∀ y : Nat, y < x → perfSum r gs k (y : Int) < 0) (hh : 0 ≤ perfSum r gs k (x : Int)) : perfG r gs k = x := by
  unfold perfG
  have e : (List.range 4000).find? (fun (x : Nat) => decide (0 ≤ perfSum r gs k (x : Int))) = some x := by
    rw [List.find?_range_eq_some]
    refine ⟨by simpa using hh, by simpa using hx, fun j hj => by simpa using h j hj⟩
  rw [e]
theorem perfG_none {r : List Int} {gs : List (List Int)} {k : Int} (h : ∀ y : Nat, y < 4000 → perfSum r gs k (y : Int) < 0) : perfG r gs k = 4000 := by
  unfold perfG
  have e : (List.range 4000).find? (fun (x : Nat) => decide (0 ≤ perfSum r gs k (x : Int))) = none := by
    rw [List.find?_eq_none]
    intro x hx
    simpa using h x (List.mem_range.1 hx)
  rw [e]
theorem perfStep_one {r : List Int} {i j : Nat} {h k x y : Int} (hk : (i : Int) = k) (hy : r[j]? = some y) : perfStep r k x [(i : Int), (j : Int), h] = expd x y - 500 * h := by
  simp [perfStep, hk, List.getD_eq_getElem?_getD, hy]
theorem perfStep_two {r : List Int} {i j : Nat} {h k x y : Int} (hk : (i : Int) ≠ k) (hk2 : (j : Int) = k) (hy : r[i]? = some y) : perfStep r k x [(i : Int), (j : Int), h] = expd x y - 500 * (2 - h) := by
  simp [perfStep, hk, hk2, List.getD_eq_getElem?_getD, hy]
theorem perfStep_no {r : List Int} {i j : Nat} {h k x : Int} (hk : (i : Int) ≠ k) (hk2 : (j : Int) ≠ k) : perfStep r k x [(i : Int), (j : Int), h] = 0 := by
  simp [perfStep, hk, hk2]

set_option maxRecDepth 100000 in
set_option maxHeartbeats 4000000 in
theorem implPerformanceOf_std (vr : Value) (r : List Int) (vg : Value) (gs : List (List Int)) (k : Int) (w : World) (hr : InI w vr r) (nr : r.length ≤ 1048576) (hg : InS w vg gs) (ng : bulk gs ≤ 1048576) (_nf : (Lit.int .i64 k).wf = true) :
    Calls Try.prog 16 #[vr, vg, .int .i64 k] w fun e w' => e = .returned (.int .i64 (perfF r gs k)) ∧ Below w.heap.size w w' := by
  have HR := Lib.hid hr
  have HS := Lib.hid hg
  obtain ⟨A, c, rfl, _, _, hrs⟩ := hr
  obtain ⟨G, d, _, rfl, -⟩ := hg
  have HRS := Lib.hid hrs
  clear hrs
  have hg20 : gs.length ≤ 1048576 := by have := bulk_len gs; omega
  have HB : Hid (Below w.heap.size w w) := Below.refl _ _
  have HW : Hid ((Lit.int .i64 (r.length : Int)).wf = true) := WalkArith.wf_i64 (by omega)
  cases c0 : ratOk r
  · go_enter Try.func16, Try.ntmps16
    go_wp2_with fail
    refine (implRatingsOk_std _ r _ (HR.out.below HB.out) nr).mono ?_
    rintro e wa ⟨rfl, hb⟩
    rw [c0]
    have HB := Lib.hid (HB.out.trans (hb.mono HB.out.size))
    clear hb
    go_wp2
    go_ret
    exact ⟨ret_int (by unfold perfF; simp [c0]), HB.out⟩
  cases c1 : gamesOk r.length gs
  · go_enter Try.func16, Try.ntmps16
    go_wp2_with fail
    refine (implRatingsOk_std _ r _ (HR.out.below HB.out) nr).mono ?_
    rintro e wa ⟨rfl, hb⟩
    rw [c0]
    have HB := Lib.hid (HB.out.trans (hb.mono HB.out.size))
    clear hb
    go_wp2_with fail
    refine (implGamesRated_std (r.length : Int) _ gs _ HW.out (HS.out.below HB.out) ng).mono ?_
    rintro e wb ⟨rfl, hb⟩
    rw [c1]
    have HB := Lib.hid (HB.out.trans (hb.mono HB.out.size))
    clear hb
    go_wp2
    go_ret
    exact ⟨ret_int (by unfold perfF; simp [c0, c1]), HB.out⟩
  cases c2 : inB k 0 ((r.length : Int) - 1)
  · go_enter Try.func16, Try.ntmps16
    go_wp2_with fail
    refine (implRatingsOk_std _ r _ (HR.out.below HB.out) nr).mono ?_
    rintro e wa ⟨rfl, hb⟩
    rw [c0]
    have HB := Lib.hid (HB.out.trans (hb.mono HB.out.size))
    clear hb
    go_wp2_with fail
    refine (implGamesRated_std (r.length : Int) _ gs _ HW.out (HS.out.below HB.out) ng).mono ?_
    rintro e wb ⟨rfl, hb⟩
    rw [c1]
    have HB := Lib.hid (HB.out.trans (hb.mono HB.out.size))
    clear hb
    go_wp2_with (go_at_call 20; refine (within_any _ _ _ _).mono ?_; rintro e w' ⟨rfl, rfl⟩)
    go_ret
    exact ⟨ret_int (by unfold perfF; simp [c0, c1, c2]), HB.out⟩
  go_enter Try.func16, Try.ntmps16
  go_wp2_with fail
  refine (implRatingsOk_std _ r _ (HR.out.below HB.out) nr).mono ?_
  rintro e wa ⟨rfl, hb⟩
  rw [c0]
  have HB := Lib.hid (HB.out.trans (hb.mono HB.out.size))
  clear hb
  go_wp2_with fail
  refine (implGamesRated_std (r.length : Int) _ gs _ HW.out (HS.out.below HB.out) ng).mono ?_
  rintro e wb ⟨rfl, hb⟩
  rw [c1]
  have HB := Lib.hid (HB.out.trans (hb.mono HB.out.size))
  clear hb
  go_wp2_with (go_at_call 20; refine (within_any _ _ _ _).mono ?_; rintro e w' ⟨rfl, rfl⟩)
  have HE : Hid (perfF r gs k = perfG r gs k) := by show _ = _; unfold perfF; simp [c0, c1, c2]
  obtain ⟨hk1, hk2⟩ := inB_t.1 c2
  have hl8 := (ratOk_t.1 c0).1
  have hg40 := gamesOk_len c1
  have CG := Lib.hid c1
  have CR := Lib.hid c0
  go_loopw [29] (fun i wr => ∃ x : Nat, x ≤ 4001 ∧ i = .int .i64 x ∧ Hid (∀ y : Nat, y < x → perfSum r gs k (y : Int) < 0) ∧ Hid (Below w.heap.size w wr)) (fun i _ => 4001 - (intOf i).toNat)
  case atStart => exact ⟨0, by omega, rfl, fun y hy => absurd hy (Nat.not_lt_zero _), HB.out⟩
  case round =>
    obtain ⟨x, hx, rfl, HN, HBX⟩ := hrel
    clear HB
    by_cases hx1 : x < 4001
    · go_wp2
      obtain ⟨wo, rfl⟩ : ∃ wo : World, wo = wr := ⟨_, rfl⟩
      go_loopw [8, 34] (fun s i wr => ∃ (m : Nat) (sv : Int), m ≤ gs.length ∧ i = .int .i64 m ∧ s = .int .i64 sv ∧ -38000 ≤ sv ∧ sv ≤ 38000 ∧ Hid (sv = perfSum r (gs.take m) k (x : Int)) ∧ Hid (Below w.heap.size w wr)) (fun _ i _ => gs.length - (intOf i).toNat)
      case atStart => exact ⟨0, 0, Nat.zero_le _, rfl, rfl, by omega, by omega, by show _ = _; simp [perfSum], HBX.out⟩
      case round =>
        obtain ⟨m, sv, hm, rfl, rfl, hs1, hs2, HSV, HBW⟩ := hrel
        by_cases hlt : m < gs.length
        · obtain ⟨bg, og, u, g, rfl, hx3, hx2, hin, hbg⟩ := HS.out.at_ (k := m) hlt
          obtain ⟨A', c', rfl, _, _, hin⟩ := hin
          have hgo : gameOk r.length g = true := gamesOk_mem CG.out (List.mem_of_getElem? hx3)
          have hall := (ratOk_t.1 CR.out).2
          have hbd := perfSum_bd r k (x : Int) (fun g hg => gamesOk_mem CG.out hg) (m + 1) (by omega)
          have hstep := perfSum_snoc (r := r) k (x : Int) hx3
          obtain ⟨i, j, h, y1, y2, b, off, b', off', rfl, rfl, rfl, hi, hj, hij, h0, h2, hy1, hy2, hb, hb', cx, cy, cg0, cg1, cg2⟩ := gameSetup HRS.out hin hgo
          obtain ⟨v1, v2⟩ := isR_t.1 (hall y1 (List.mem_of_getElem? hy1))
          obtain ⟨v3, v4⟩ := isR_t.1 (hall y2 (List.mem_of_getElem? hy2))
          have cx2 := (HBW.out.cell (p := ⟨b, off + i, none⟩) hb).trans cx
          have cy2 := (HBW.out.cell (p := ⟨b, off + j, none⟩) hb).trans cy
          have cg0' := (HBW.out.cell (p := ⟨b', off', none⟩) hb').trans cg0
          have cg1' := (HBW.out.cell (p := ⟨b', off' + 1, none⟩) hb').trans cg1
          have cg2' := (HBW.out.cell (p := ⟨b', off' + 2, none⟩) hb').trans cg2
          have cu := (HBW.out.cell (p := ⟨bg, og + m, none⟩) hbg).trans hx2
          obtain ⟨e1, e2⟩ := expd_bd (x : Int) y1
          obtain ⟨e3, e4⟩ := expd_bd (x : Int) y2
          by_cases ki : (i : Int) = k
          · have q1 : (k == (i : Int)) = true := by simp [ki]
            have HP : Hid (perfSum r (gs.take (m + 1)) k (x : Int) = sv + (expd (x : Int) y2 - 500 * h)) := by
              show _ = _; rw [hstep, perfStep_one ki hy2, HSV.out]
            rw [HP.out] at hbd
            obtain ⟨hbd1, hbd2⟩ := hbd
            clear ki hstep hx3 hin hgo hall hy1 hy2 cx cy cg0 cg1 cg2 hx2
            go_wp2
            go_quiet ((go_at_call 30; exact quiet_left (expected_any _ _ _ (by omega) (by omega) (by omega) (by omega))))
            all_goals go_wp2
            all_goals go_roundw
            case rel => exact ⟨m + 1, _, by omega, by go_num, rfl, by omega, by omega, HP.out.symm, below_drewN HBW.out _⟩
            case measure => simp [intOf]; omega
          · have q1 : (k == (i : Int)) = false := by simp; omega
            by_cases kj : (j : Int) = k
            · have q2 : (k == (j : Int)) = true := by simp [kj]
              have HP : Hid (perfSum r (gs.take (m + 1)) k (x : Int) = sv + (expd (x : Int) y1 - 500 * (2 - h))) := by
                show _ = _; rw [hstep, perfStep_two ki kj hy1, HSV.out]
              rw [HP.out] at hbd
              obtain ⟨hbd1, hbd2⟩ := hbd
              clear ki kj hstep hx3 hin hgo hall hy1 hy2 cx cy cg0 cg1 cg2 hx2
              go_wp2
              go_quiet ((go_at_call 30; exact quiet_left (expected_any _ _ _ (by omega) (by omega) (by omega) (by omega))))
              all_goals go_wp2
              all_goals go_roundw
              case rel => exact ⟨m + 1, _, by omega, by go_num, rfl, by omega, by omega, HP.out.symm, below_drewN HBW.out _⟩
              case measure => simp [intOf]; omega
            · have q2 : (k == (j : Int)) = false := by simp; omega
              have HP : Hid (perfSum r (gs.take (m + 1)) k (x : Int) = sv) := by
                show _ = _; rw [hstep, perfStep_no ki kj, HSV.out]; omega
              clear ki kj hstep hx3 hin hgo hall hy1 hy2 cx cy cg0 cg1 cg2 hx2 hbd
              go_wp2
              all_goals go_roundw
              case rel => exact ⟨m + 1, _, by omega, by go_num, rfl, by omega, by omega, HP.out.symm, HBW.out⟩
              case measure => simp [intOf]; omega
        · obtain rfl : m = gs.length := by omega
          have HSV2 : Hid (sv = perfSum r gs k (x : Int)) := by
            show _ = _
            have h := HSV.out
            rw [List.take_of_length_le (Nat.le_refl _)] at h; exact h
          by_cases hpos : 0 ≤ sv
          · go_wp2
            go_ret
            refine ⟨ret_int ?_, HBW.out⟩
            rw [HE.out]
            by_cases h4 : x < 4000
            · rw [perfG_hit h4 HN.out (by rw [← HSV2.out]; exact hpos)]
            · rw [perfG_none (fun y hy => HN.out y (by omega))]; omega
          · go_wp2
            go_roundw
            case rel =>
              refine ⟨x + 1, by omega, by go_num, ?_, HBW.out⟩
              intro y hy
              rcases Nat.lt_or_ge y x with hlt' | hge
              · exact HN.out y hlt'
              · obtain rfl : y = x := by omega
                rw [← HSV2.out]; omega
            case measure => simp [intOf]; omega
    · obtain rfl : x = 4001 := by omega
      go_wp2
      go_ret
      exact ⟨ret_int (by rw [HE.out, perfG_none (fun y hy => HN.out y (by omega))]), HBX.out⟩

def halfOf (k : Int) (g : List Int) : Int := match g with
  | [a, b, h] => if a = k then h else if b = k then 2 - h else 0
  | _ => 0
def foeOf (r : List Int) (k : Int) (g : List Int) : List Int := match g with
  | [a, b, _] => if a = k then [r.getD b.toNat 0] else if b = k then [r.getD a.toNat 0] else []
  | _ => []
def halves (k : Int) (gs : List (List Int)) : Int := (gs.map (halfOf k)).sum
def foes (r : List Int) (k : Int) (gs : List (List Int)) : List Int := (gs.map (foeOf r k)).flatten
theorem halves_snoc {gs : List (List Int)} {m : Nat} {g : List Int} (k : Int) (h : gs[m]? = some g) : halves k (gs.take (m + 1)) = halves k (gs.take m) + halfOf k g := by
  rw [take_snoc h]; simp [halves]
theorem foes_snoc {r : List Int} {gs : List (List Int)} {m : Nat} {g : List Int} (k : Int) (h : gs[m]? = some g) : foes r k (gs.take (m + 1)) = foes r k (gs.take m) ++ foeOf r k g := by
  rw [take_snoc h]; simp [foes]
theorem perfStep_split (r : List Int) (k x : Int) (g : List Int) : perfStep r k x g = ((foeOf r k g).map (expd x)).sum - 500 * halfOf k g := by
  unfold perfStep foeOf halfOf
  split
  · split
    · simp
    · split
      · simp
      · simp
  · simp
theorem perfSum_split (r : List Int) (gs : List (List Int)) (k x : Int) : perfSum r gs k x = ((foes r k gs).map (expd x)).sum - 500 * halves k gs := by
  induction gs with
  | nil => simp [perfSum, foes, halves]
  | cons g gs ih =>
    have h1 : perfSum r (g :: gs) k x = perfStep r k x g + perfSum r gs k x := by simp [perfSum]
    have h2 : foes r k (g :: gs) = foeOf r k g ++ foes r k gs := by simp [foes]
    have h3 : halves k (g :: gs) = halfOf k g + halves k gs := by simp [halves]
    rw [h1, ih, perfStep_split, h2, h3, List.map_append, List.sum_append]; omega
theorem foeOf_one {r : List Int} {i j : Nat} {h k y : Int} (hk : (i : Int) = k) (hy : r[j]? = some y) : foeOf r k [(i : Int), (j : Int), h] = [y] ∧ halfOf k [(i : Int), (j : Int), h] = h := by
  simp [foeOf, halfOf, hk, List.getD_eq_getElem?_getD, hy]
theorem foeOf_two {r : List Int} {i j : Nat} {h k y : Int} (hk : (i : Int) ≠ k) (hk2 : (j : Int) = k) (hy : r[i]? = some y) : foeOf r k [(i : Int), (j : Int), h] = [y] ∧ halfOf k [(i : Int), (j : Int), h] = 2 - h := by
  simp [foeOf, halfOf, hk, hk2, List.getD_eq_getElem?_getD, hy]
theorem foeOf_no {r : List Int} {i j : Nat} {h k : Int} (hk : (i : Int) ≠ k) (hk2 : (j : Int) ≠ k) : foeOf r k [(i : Int), (j : Int), h] = [] ∧ halfOf k [(i : Int), (j : Int), h] = 0 := by
  simp [foeOf, halfOf, hk, hk2]
theorem expSum_snoc {xs : List Int} {m : Nat} {y : Int} (x : Int) (h : xs[m]? = some y) : ((xs.take (m + 1)).map (expd x)).sum = ((xs.take m).map (expd x)).sum + expd x y := by
  rw [take_snoc h]; simp
theorem expSum_bd (xs : List Int) (x : Int) : ∀ m, m ≤ xs.length → 0 ≤ ((xs.take m).map (expd x)).sum ∧ ((xs.take m).map (expd x)).sum ≤ 950 * (m : Int) := by
  intro m
  induction m with
  | zero => intro _; simp
  | succ m ih =>
    intro hm
    have ih := ih (by omega)
    have hg : xs[m]? = some xs[m] := List.getElem?_eq_getElem (by omega)
    have := expd_bd x xs[m]
    rw [expSum_snoc x hg]; omega
end Go.Proofs.Ytihoflfokiijdaa
