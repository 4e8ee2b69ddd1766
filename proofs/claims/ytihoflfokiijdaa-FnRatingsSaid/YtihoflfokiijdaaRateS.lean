/- Ratings: contracts of functions on games. -/
import Derived.Test.YtihoflfokiijdaaToolsS
import Derived.Test.YtihoflfokiijdaaRateStd
namespace Go.Proofs.Ytihoflfokiijdaa
open Go.ChangeShapes Go.WideShapes Go.ChangeAt Go.RowKit

def gamesOk (n : Int) (gs : List (List Int)) : Bool := decide (gs.length ≤ 40) && gs.all (gameOk n)

theorem gamesRated1_any (n : Int) (u : Value) (g : List Int) (bn : Nat) (w : World) (h : InI w u g) (hl : g.length ≤ 1048576) (h1 : w.cell? ⟨bn, 0, none⟩ = some (.int .i64 n)) :
    Calls Try.prog 26 #[u, .pointer (some ⟨bn, 0, none⟩)] w fun e w' => e = .returned (.bool (!gameOk n g)) ∧ ∃ q, w' = w.drewN q := by
  obtain ⟨A, c, rfl, _, _, h⟩ := h
  have HC := Lib.hid (isRated_any n A c g w h hl)
  clear h
  go_enter Try.func26, Try.ntmps26
  go_wp2_with fail
  refine HC.out.mono ?_
  rintro e w' ⟨rfl, q, rfl⟩
  go_wp2
  go_ret
  exact ⟨rfl, q, rfl⟩
set_option maxHeartbeats 400000 in
theorem implGamesRated_std (n : Int) (v : Value) (gs : List (List Int)) (w : World) (_hi : (Lit.int .i64 n).wf = true) (hs : InS w v gs) (hn : bulk gs ≤ 1048576) :
    Calls Try.prog 9 #[.int .i64 n, v] w fun e w' => e = .returned (.bool (gamesOk n gs)) ∧ Below w.heap.size w w' := by
  have hn' : gs.length ≤ 1048576 := by have := bulk_len gs; omega
  have HS := Lib.hid hs
  obtain ⟨A, c, _, rfl, -⟩ := hs
  by_cases hl : gs.length ≤ 40
  · have HE : Hid (gamesOk n gs = gs.all (gameOk n)) := by show _ = _; simp [gamesOk, hl]
    have HI : Hid (∀ (q : Nat) (u : Value) (xs : List Int), InI ((w.alloc (.cells #[.int .i64 n] 3)).drewN q) u xs → xs ∈ gs →
        Calls Try.prog 26 (#[u] ++ #[.pointer (some ⟨w.heap.size, 0, none⟩)]) ((w.alloc (.cells #[.int .i64 n] 3)).drewN q) fun e w' => e = .returned (.bool (!gameOk n xs)) ∧ ∃ q', w' = (w.alloc (.cells #[.int .i64 n] 3)).drewN q') := by
      intro q u xs hu hx
      have hxl : xs.length ≤ 1048576 := by
        obtain ⟨k, hk, hx⟩ := List.getElem_of_mem hx
        have := bulk_row (xss := gs) (k := k) (by rw [List.getElem?_eq_getElem hk, hx]); omega
      refine (gamesRated1_any n u xs w.heap.size _ hu hxl (by simp [go_sem])).mono ?_
      rintro e w' ⟨rfl, q', rfl⟩
      exact ⟨rfl, _, World.drewN_drewN _ _ _⟩
    go_enter Try.func9, Try.ntmps9
    go_wp2_with fail
    refine (containsFuncS_any _ gs _ (HS.out.below ((Below.refl _ w).alloc (Nat.le_refl _) _)) hn' 26 #[.pointer (some ⟨w.heap.size, 0, none⟩)] (fun g => !gameOk n g) (fun _ _ => by kernel_rfl) HI.out).mono ?_
    rintro e w1 ⟨rfl, q1, rfl⟩
    go_wp2
    go_ret
    refine ⟨ret_bool ?_, below_drewN ((Below.refl _ w).alloc (Nat.le_refl _) _) _⟩
    rw [HE.out]; exact all_not_any _ _
  · have HE : Hid (gamesOk n gs = false) := by show _ = _; simp [gamesOk, hl]
    have d : decide ((gs.length : Int) ≤ 40) = false := by simp; omega
    go_enter Try.func9, Try.ntmps9
    go_wp2
    go_ret
    exact ⟨by rw [HE.out]; rfl, (Below.refl _ w).alloc (Nat.le_refl _) _⟩

/-- The ratings after a game. -/
def afterG (r g : List Int) (f : Int) : List Int := match g with
  | [a, b, h] =>
    let d := chg (r.getD a.toNat 0) (r.getD b.toNat 0) h f
    let o := (r.set a.toNat (r.getD a.toNat 0 + d)).set b.toNat (r.getD b.toNat 0 - d)
    if ratOk o then o else r
  | _ => r
theorem afterG_len (r g : List Int) (f : Int) : (afterG r g f).length = r.length := by
  unfold afterG
  split
  · dsimp only; split
    · simp
    · rfl
  · rfl
theorem afterG_at {r : List Int} {i j : Nat} {h f x y : Int} (hx : r[i]? = some x) (hy : r[j]? = some y) :
    afterG r [(i : Int), (j : Int), h] f = if ratOk ((r.set i (x + chg x y h f)).set j (y - chg x y h f)) then (r.set i (x + chg x y h f)).set j (y - chg x y h f) else r := by
  simp only [afterG, Int.toNat_natCast, List.getD_eq_getElem?_getD, hx, hy, Option.getD_some]
theorem afterG_ok {r g : List Int} {f : Int} (h : ratOk r = true) : ratOk (afterG r g f) = true := by
  unfold afterG
  split
  · dsimp only; split
    · assumption
    · exact h
  · exact h
theorem ratOk_set {r : List Int} {i j : Nat} {u v : Int} (h : ratOk r = true) (hi : i < r.length) (hj : j < r.length) (hij : i ≠ j) : ratOk ((r.set i u).set j v) = (isR u && isR v) := by
  obtain ⟨h1, h2⟩ := ratOk_t.1 h
  cases hc : (isR u && isR v)
  · rw [Bool.and_eq_false_iff] at hc
    cases hk : ratOk ((r.set i u).set j v)
    · rfl
    · obtain ⟨_, h3⟩ := ratOk_t.1 hk
      rcases hc with hc | hc
      · have hm : u ∈ (r.set i u).set j v := by
          refine List.mem_of_getElem? (i := i) ?_
          rw [List.getElem?_set_ne (fun e => hij e.symm), List.getElem?_set_self hi]
        rw [h3 u hm] at hc; cases hc
      · have hm : v ∈ (r.set i u).set j v := by
          refine List.mem_of_getElem? (i := j) ?_
          rw [List.getElem?_set_self (by simpa using hj)]
        rw [h3 v hm] at hc; cases hc
  · rw [Bool.and_eq_true] at hc
    refine ratOk_t.2 ⟨by simpa using h1, fun x hx => ?_⟩
    rcases List.mem_or_eq_of_mem_set hx with hx | rfl
    · rcases List.mem_or_eq_of_mem_set hx with hx | rfl
      · exact h2 x hx
      · exact hc.1
    · exact hc.2

theorem gameSetup {w : World} {A G : Option Addr} {r g : List Int} (hr : SlI w A r) (hg : SlI w G g) (hgo : gameOk r.length g = true) :
    ∃ (i j : Nat) (h x y : Int) (b off b' off' : Nat), g = [(i : Int), (j : Int), h] ∧ A = some ⟨b, off, none⟩ ∧ G = some ⟨b', off', none⟩ ∧ i < r.length ∧ j < r.length ∧ i ≠ j ∧ 0 ≤ h ∧ h ≤ 2 ∧ r[i]? = some x ∧ r[j]? = some y ∧
      b < w.heap.size ∧ b' < w.heap.size ∧ w.cell? ⟨b, off + i, none⟩ = some (.int .i64 x) ∧ w.cell? ⟨b, off + j, none⟩ = some (.int .i64 y) ∧
      w.cell? ⟨b', off', none⟩ = some (.int .i64 i) ∧ w.cell? ⟨b', off' + 1, none⟩ = some (.int .i64 j) ∧ w.cell? ⟨b', off' + 2, none⟩ = some (.int .i64 h) := by
  obtain ⟨a, c, h, rfl, h1, h2, h3, h4, h5, h6, h7⟩ := gameOk_t hgo
  obtain ⟨i, rfl⟩ := Int.eq_ofNat_of_zero_le h1
  obtain ⟨j, rfl⟩ := Int.eq_ofNat_of_zero_le h3
  have hi : i < r.length := by omega
  have hj : j < r.length := by omega
  obtain ⟨b, off, x, rfl, hx, cx, hb⟩ := hr.at_ hi
  obtain ⟨b2, off2, y, hA, hy, cy, _⟩ := hr.at_ hj
  injection hA with hA; injection hA with e1 e2; subst e1; subst e2
  obtain ⟨b', off', g0, rfl, hg0, c0, hb'⟩ := hg.at_ (k := 0) (by simp)
  obtain ⟨b2, off2, g1, hA, hg1, c1, _⟩ := hg.at_ (k := 1) (by simp)
  injection hA with hA; injection hA with e1 e2; subst e1; subst e2
  obtain ⟨b2, off2, g2, hA, hg2, c2, _⟩ := hg.at_ (k := 2) (by simp)
  injection hA with hA; injection hA with e1 e2; subst e1; subst e2
  simp at hg0 hg1 hg2
  subst hg0; subst hg1; subst hg2
  exact ⟨i, j, h, x, y, b, off, b', off', rfl, rfl, rfl, hi, hj, by omega, h6, h7, hx, hy, hb, hb', cx, cy, by simpa using c0, c1, c2⟩

set_option maxHeartbeats 2000000 in
theorem afterGame_any (A G : Option Addr) (c d : Nat) (r g : List Int) (f : Int) (w : World) (hr : SlI w A r) (hg : SlI w G g) (hro : ratOk r = true) (hgo : gameOk r.length g = true) (hf1 : 1 ≤ f) (hf2 : f ≤ 100) :
    Calls Try.prog 22 #[.slice A r.length c, .slice G g.length d, .int .i64 f] w fun e w' => ∃ A' c', e = .returned (.slice A' (afterG r g f).length c') ∧ Fr w' w.heap.size w'.heap.size (.slice A' (afterG r g f).length c') (afterG r g f) ∧ Below w.heap.size w w' := by
  have HR := Lib.hid hr
  obtain ⟨⟨hl1, hl2⟩, hall⟩ := ratOk_t.1 hro
  obtain ⟨i, j, h, x, y, b, off, b', off', rfl, rfl, rfl, hi, hj, hij, h0, h2, hx, hy, hb, hb', cx, cy, cg0, cg1, cg2⟩ := gameSetup hr hg hgo
  obtain ⟨x1, x2⟩ := isR_t.1 (hall x (List.mem_of_getElem? hx))
  obtain ⟨y1, y2⟩ := isR_t.1 (hall y (List.mem_of_getElem? hy))
  obtain ⟨d1, d2⟩ := chg_bd x y h f h0 h2 hf1 hf2
  have HAF := Lib.hid (afterG_at (h := h) (f := f) hx hy)
  have HX := Lib.hid hx
  have HY := Lib.hid hy
  have HL := Lib.hid (afterG_len r [(i : Int), (j : Int), h] f)
  clear hr hg hgo hall hx hy
  rw [HL.out]
  generalize hn : r.length = n at *
  have HN := Lib.hid hn
  clear hn
  show Calls Try.prog 22 #[.slice (some ⟨b, off, none⟩) n c, .slice (some ⟨b', off', none⟩) 3 d, .int .i64 f] w _
  go_enter Try.func22, Try.ntmps22
  go_wp2_with fail
  rw [← HN.out]
  refine (cloneI_any _ c r _ HR.out (by rw [HN.out]; omega)).mono ?_
  rintro e w1 ⟨A1, c1, rfl, hfr, hb1⟩
  rw [HN.out] at hfr ⊢
  obtain ⟨g0, x', rfl, hg1, hg2, hx', cx1, fx1, hst⟩ := hfr.at_ (k := i) (by rw [HN.out]; exact hi)
  obtain ⟨g0', y', hA, _, _, hy', cy1, fy1, _⟩ := hfr.at_ (k := j) (by rw [HN.out]; exact hj)
  injection hA with hA; injection hA with e1; subst e1
  rw [HX.out] at hx'
  rw [HY.out] at hy'
  injection hx' with hx'
  injection hy' with hy'
  subst hx'; subst hy'
  have cx' := (hb1.cell (p := ⟨b, off + i, none⟩) hb).trans cx
  have cy' := (hb1.cell (p := ⟨b, off + j, none⟩) hb).trans cy
  have cg0' := (hb1.cell (p := ⟨b', off', none⟩) hb').trans cg0
  have cg1' := (hb1.cell (p := ⟨b', off' + 1, none⟩) hb').trans cg1
  have cg2' := (hb1.cell (p := ⟨b', off' + 2, none⟩) hb').trans cg2
  have hne : b' ≠ g0 := by omega
  have HB1 := Lib.hid hb1
  have HFR := Lib.hid hfr
  clear cx cy cg0 cg1 cg2 hst hfr hb1
  go_wp2
  go_quiet ((go_at_call 23; exact quiet_left (change_any _ _ _ _ _ (by omega) (by omega) (by omega) (by omega) (by omega) (by omega) (by omega) (by omega))))
  generalize hw2 : w1.drewN nq = w2
  have e1 : w2.cell? ⟨g0, i, none⟩ = some (.int .i64 x) := by rw [← hw2]; exact cx1
  have e2 : w2.cell? ⟨g0, j, none⟩ = some (.int .i64 y) := by rw [← hw2]; exact cy1
  have e3 : w2.frozen? ⟨g0, i, none⟩ = false := by rw [← hw2]; exact fx1
  have e4 : w2.frozen? ⟨g0, j, none⟩ = false := by rw [← hw2]; exact fy1
  have e5 : w2.cell? ⟨b', off', none⟩ = some (.int .i64 i) := by rw [← hw2]; exact cg0'
  have e6 : w2.cell? ⟨b', off' + 1, none⟩ = some (.int .i64 j) := by rw [← hw2]; exact cg1'
  have HB2 : Hid (Below w.heap.size w w2) := by rw [← hw2]; exact below_drewN HB1.out nq
  have HF2 : Hid (Fr w2 w.heap.size w2.heap.size (.slice (some ⟨g0, 0, none⟩) n c1) r) := by rw [← hw2]; exact HFR.out
  have HG2 : Hid (g0 < w2.heap.size) := by rw [← hw2]; exact hg2
  clear cx1 cy1 fx1 fy1 cx' cy' cg0' cg1' cg2' hw2
  have HST : Hid (Fr ((w2.setCell ⟨g0, i, none⟩ (.int .i64 (x + chg x y h f))).setCell ⟨g0, j, none⟩ (.int .i64 (y - chg x y h f))) w.heap.size w2.heap.size (.slice (some ⟨g0, 0, none⟩) n c1) ((r.set i (x + chg x y h f)).set j (y - chg x y h f)) ∧
      Keep w.heap.size w2.heap.size w2 ((w2.setCell ⟨g0, i, none⟩ (.int .i64 (x + chg x y h f))).setCell ⟨g0, j, none⟩ (.int .i64 (y - chg x y h f)))) := by
    obtain ⟨g1, _, hA, _, _, _, _, _, hs1⟩ := HF2.out.at_ (k := i) (by rw [HN.out]; exact hi)
    injection hA with hA; injection hA with hA; subst hA
    obtain ⟨F3, K3⟩ := hs1 (x + chg x y h f)
    obtain ⟨g1, _, hA, _, _, _, _, _, hs2⟩ := F3.at_ (k := j) (by rw [List.length_set, HN.out]; exact hj)
    injection hA with hA; injection hA with hA; subst hA
    obtain ⟨F4, K4⟩ := hs2 (y - chg x y h f)
    exact ⟨F4, K3.trans (K4.wide (Nat.le_refl _) (Nat.le_refl _))⟩
  go_wp2_with fail
  generalize hw3 : (w2.setCell ⟨g0, i, none⟩ (.int .i64 (x + chg x y h f))).setCell ⟨g0, j, none⟩ (.int .i64 (y - chg x y h f)) = w3 at *
  have hlen : ((r.set i (x + chg x y h f)).set j (y - chg x y h f)).length = n := by simp [HN.out]
  have hz := HST.out.2.size
  have hb3 : Below w.heap.size w w3 := HB2.out.trans (HST.out.2.below (Nat.le_refl _) HB2.out.size)
  have hcall := implRatingsOk_std (.slice (some ⟨g0, 0, none⟩) n c1) _ w3 HST.out.1.in_ (by rw [hlen]; omega)
  refine hcall.mono ?_
  rintro e w4 ⟨rfl, hb4⟩
  have HF4 := Lib.hid (HST.out.1.grow hb4)
  have HB4 := Lib.hid (hb3.trans (hb4.mono hb3.size))
  have HZ4 : Hid (w2.heap.size ≤ w4.heap.size) := by have := hb4.size; show _ ≤ _; omega
  clear hcall hb4 hb3 hz e1 e2 e3 e4 e5 e6 hw3 HST
  have HLE := Lib.hid hlen
  clear hlen
  cases hro2 : ratOk ((r.set i (x + chg x y h f)).set j (y - chg x y h f))
  · have HE : Hid (afterG r [(i : Int), (j : Int), h] f = r) := by show _ = _; rw [HAF.out, hro2]; rfl
    go_wp2_with fail
    rw [← HN.out]
    refine (cloneI_any _ c r _ (HR.out.below HB4.out) (by rw [HN.out]; omega)).mono ?_
    rintro e w5 ⟨A5, c5, rfl, hfr5, hb5⟩
    rw [HN.out] at hfr5
    have HF5 := Lib.hid (hfr5.wide HB4.out.size (Nat.le_refl _) (Nat.le_refl _))
    have HB5 := Lib.hid (HB4.out.trans (hb5.mono HB4.out.size))
    clear hfr5 hb5
    go_wp2
    go_ret
    rw [HE.out]
    exact ⟨_, _, by rw [HN.out]; rfl, HF5.out, HB5.out⟩
  · have HE : Hid (afterG r [(i : Int), (j : Int), h] f = (r.set i (x + chg x y h f)).set j (y - chg x y h f)) := by show _ = _; rw [HAF.out, hro2]; rfl
    go_wp2
    go_ret
    rw [HE.out]
    exact ⟨_, _, rfl, HF4.out.wide (Nat.le_refl _) HZ4.out (Nat.le_refl _), HB4.out⟩

def afterF (r g : List Int) (f : Int) : List Int := if ratOk r && gameOk r.length g && inB f 1 100 then afterG r g f else []
theorem afterF_len {r g : List Int} {f : Int} (h : r.length ≤ 1048576) : (afterF r g f).length ≤ 1048576 := by
  unfold afterF; split
  · rw [afterG_len]; exact h
  · simp
def afterGs (r : List Int) (f : Int) : List (List Int) → List Int
  | [] => r
  | g :: gs => afterGs (afterG r g f) f gs
theorem afterGs_snoc (r : List Int) (f : Int) (gs : List (List Int)) (g : List Int) : afterGs r f (gs ++ [g]) = afterG (afterGs r f gs) g f := by
  induction gs generalizing r with
  | nil => rfl
  | cons a gs ih => exact ih _
theorem afterGs_len (r : List Int) (f : Int) (gs : List (List Int)) : (afterGs r f gs).length = r.length := by
  induction gs generalizing r with
  | nil => rfl
  | cons a gs ih => rw [afterGs, ih, afterG_len]
theorem afterGs_ok {r : List Int} (f : Int) (gs : List (List Int)) (h : ratOk r = true) : ratOk (afterGs r f gs) = true := by
  induction gs generalizing r with
  | nil => exact h
  | cons a gs ih => exact ih (afterG_ok h)
def ratesOk (r : List Int) (gs : List (List Int)) (f : Int) : Bool := ratOk r && gamesOk r.length gs && inB f 1 100
def afterAllF (r : List Int) (gs : List (List Int)) (f : Int) : List Int := if ratesOk r gs f then afterGs r f gs else []
theorem afterAllF_len {r : List Int} {gs : List (List Int)} {f : Int} (h : r.length ≤ 1048576) : (afterAllF r gs f).length ≤ 1048576 := by
  unfold afterAllF; split
  · rw [afterGs_len]; exact h
  · simp
theorem gamesOk_mem {n : Int} {gs : List (List Int)} (h : gamesOk n gs = true) {g : List Int} (hg : g ∈ gs) : gameOk n g = true := by
  simp only [gamesOk, Bool.and_eq_true, List.all_eq_true] at h; exact h.2 g hg
theorem gamesOk_len {n : Int} {gs : List (List Int)} (h : gamesOk n gs = true) : gs.length ≤ 40 := by
  simp only [gamesOk, Bool.and_eq_true, decide_eq_true_eq] at h; exact h.1
def sumRF (r : List Int) : Int := if ratOk r then r.sum else -1
theorem sumB_ok {r : List Int} (h : ratOk r = true) : sumB r := by
  intro x hx
  obtain ⟨h1, h2⟩ := isR_t.1 ((ratOk_t.1 h).2 x hx)
  omega

set_option maxHeartbeats 1000000 in
theorem implAfterGame_std (vr : Value) (r : List Int) (vg : Value) (g : List Int) (f : Int) (w : World) (hr : InI w vr r) (nr : r.length ≤ 1048576) (hg : InI w vg g) (ng : g.length ≤ 1048576) (_nf : (Lit.int .i64 f).wf = true) :
    Calls Try.prog 12 #[vr, vg, .int .i64 f] w fun e w' => ∃ v', e = .returned v' ∧ Fr w' w.heap.size w'.heap.size v' (afterF r g f) ∧ Below w.heap.size w w' := by
  have HR := Lib.hid hr
  have HG := Lib.hid hg
  obtain ⟨A, c, rfl, _, _, hrs⟩ := hr
  obtain ⟨G, d, rfl, _, _, hgs⟩ := hg
  have HRS := Lib.hid hrs
  have HGS := Lib.hid hgs
  clear hrs hgs
  have hnil : (ratOk r && gameOk r.length g && inB f 1 100) = false → ∀ W : World, Below w.heap.size w W → ∃ v', Ending.returned (.slice none 0 0) = .returned v' ∧ Fr W w.heap.size W.heap.size v' (afterF r g f) ∧ Below w.heap.size w W := by
    intro hc W hB
    refine ⟨_, rfl, ?_, hB⟩
    unfold afterF; rw [hc]; exact Fr.nil W (Nat.le_refl _)
  have HN := Lib.hid hnil
  clear hnil
  cases hro : ratOk r
  · go_enter Try.func12, Try.ntmps12
    go_wp2_with fail
    refine (implRatingsOk_std _ r _ HR.out nr).mono ?_
    rintro e w1 ⟨rfl, hb1⟩
    rw [hro]
    have HB := Lib.hid hb1
    clear hb1
    go_wp2
    go_ret
    exact HN.out (by rw [hro]; rfl) _ HB.out
  have hl := (ratOk_t.1 hro).1
  cases hgo : gameOk r.length g
  · go_enter Try.func12, Try.ntmps12
    go_wp2_with fail
    refine (implRatingsOk_std _ r _ HR.out nr).mono ?_
    rintro e w1 ⟨rfl, hb1⟩
    rw [hro]
    have HB := Lib.hid hb1
    clear hb1
    go_wp2_with fail
    refine (isRated_any r.length G d g _ (HGS.out.below HB.out) ng).mono ?_
    rintro e w2 ⟨rfl, q, rfl⟩
    rw [hgo]
    go_wp2
    go_ret
    exact HN.out (by rw [hro, hgo]; rfl) _ (below_drewN HB.out _)
  cases hf : inB f 1 100
  · go_enter Try.func12, Try.ntmps12
    go_wp2_with fail
    refine (implRatingsOk_std _ r _ HR.out nr).mono ?_
    rintro e w1 ⟨rfl, hb1⟩
    rw [hro]
    have HB := Lib.hid hb1
    clear hb1
    go_wp2_with fail
    refine (isRated_any r.length G d g _ (HGS.out.below HB.out) ng).mono ?_
    rintro e w2 ⟨rfl, q, rfl⟩
    rw [hgo]
    go_wp2_with (go_at_call 20; refine (within_any _ _ _ _).mono ?_; rintro e w' ⟨rfl, rfl⟩)
    go_ret
    exact HN.out (by rw [hro, hgo, hf]; rfl) _ (below_drewN HB.out _)
  have HE : Hid (afterF r g f = afterG r g f) := by show _ = _; simp [afterF, hro, hgo, hf]
  obtain ⟨hf1, hf2⟩ := inB_t.1 hf
  go_enter Try.func12, Try.ntmps12
  go_wp2_with fail
  refine (implRatingsOk_std _ r _ HR.out nr).mono ?_
  rintro e w1 ⟨rfl, hb1⟩
  rw [hro]
  have HB := Lib.hid hb1
  clear hb1
  go_wp2_with fail
  refine (isRated_any r.length G d g _ (HGS.out.below HB.out) ng).mono ?_
  rintro e w2 ⟨rfl, q, rfl⟩
  rw [hgo]
  have HB2 := Lib.hid (below_drewN HB.out q)
  have HRS2 := Lib.hid (HRS.out.below HB2.out)
  have HGS2 := Lib.hid (HGS.out.below HB2.out)
  generalize w1.drewN q = w2 at *
  clear HB
  go_wp2_with (go_at_call 20; refine (within_any _ _ _ _).mono ?_; rintro e w' ⟨rfl, rfl⟩)
  refine (afterGame_any A G c d r g f _ HRS2.out HGS2.out hro hgo hf1 hf2).mono ?_
  rintro e w3 ⟨A', c', rfl, hfr, hb3⟩
  have HF := Lib.hid (hfr.wide HB2.out.size (Nat.le_refl _) (Nat.le_refl _))
  have HB3 := Lib.hid (HB2.out.trans (hb3.mono HB2.out.size))
  clear hfr hb3
  go_wp2
  go_ret
  exact ⟨_, rfl, by rw [HE.out]; exact HF.out, HB3.out⟩
end Go.Proofs.Ytihoflfokiijdaa
