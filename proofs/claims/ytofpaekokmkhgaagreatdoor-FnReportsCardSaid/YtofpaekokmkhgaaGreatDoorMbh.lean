/- Plans of rounds that are turned, doubled, swapped and cut; circle plans: plain facts. -/
import Derived.Test.YtofpaekokmkhgaaGreatDoorMbg
import Derived.Test.YtofpaekokmkhgaaGreatDoorMag
import Derived.BigQuiet
import Derived.Deep.QuietTactic
namespace Go.Proofs.YtofpaekokmkhgaaGreatDoor
open Go.ChangeShapes Go.WideShapes Go.ChangeAt Go.RowKit

/-- A round with home and away exchanged. -/
def negL (R : List Int) : List Int := R.map (fun x => -x)
def turnP (P : List (List Int)) : List (List Int) := P.map negL
theorem negL_get (R : List Int) (k : Nat) : (negL R).getD k 0 = -(R.getD k 0) := by
  rw [negL, List.getD_eq_getElem?_getD, List.getElem?_map, List.getD_eq_getElem?_getD]
  cases R[k]? <;> rfl
theorem negL_len (R : List Int) : (negL R).length = R.length := by simp [negL]
theorem negL_negL (R : List Int) : negL (negL R) = R := by
  rw [negL, negL, List.map_map, show ((fun x : Int => -x) ∘ fun x => -x) = id from by funext x; exact Int.neg_neg x, List.map_id]
theorem turnP_turnP (P : List (List Int)) : turnP (turnP P) = P := by
  rw [turnP, turnP, List.map_map]
  have : (negL ∘ negL) = id := by funext R; exact negL_negL R
  rw [this, List.map_id]
theorem elB_neg {n : Int} {R : List Int} {k : Nat} (h : elB n R k = true) : elB n (negL R) k = true := by
  unfold elB at h ⊢
  simp only [Bool.and_eq_true, Bool.not_eq_true', beq_eq_false_iff_ne, ne_eq, beq_iff_eq, inB_t] at h ⊢
  obtain ⟨h1, h2, h3, h4⟩ := h
  rw [negL_get]
  have e : opp (-(R.getD k 0)) = opp (R.getD k 0) := by unfold opp; rw [Int.neg_neg, Int.max_comm]
  rw [e, negL_get, h4]
  refine ⟨by omega, by omega, h3, ?_⟩
  rw [Int.neg_neg]
  unfold sgn
  generalize R.getD k 0 = x at *
  split <;> split <;> omega
theorem roundB_neg {n : Int} {R : List Int} (h : roundB n R = true) : roundB n (negL R) = true := by
  unfold roundB at h ⊢
  rw [Bool.and_eq_true] at h ⊢
  rw [negL_len]
  exact ⟨h.1, allTo_t.2 fun k hk => elB_neg (allTo_t.1 h.2 k hk)⟩
theorem planB_p {n : Int} {P : List (List Int)} (h : planB n P = true) : clubsB n = true ∧ P.length ≤ 36 ∧ ∀ R ∈ P, roundB n R = true := by
  unfold planB at h
  simp only [Bool.and_eq_true, decide_eq_true_eq, List.all_eq_true] at h
  exact ⟨h.1, h.2.1, h.2.2⟩
theorem planB_mk {n : Int} {P : List (List Int)} (h1 : clubsB n = true) (h2 : P.length ≤ 36) (h3 : ∀ R ∈ P, roundB n R = true) : planB n P = true := by
  unfold planB
  simp only [Bool.and_eq_true, decide_eq_true_eq, List.all_eq_true]
  exact ⟨h1, h2, h3⟩
theorem planB_turn {n : Int} {P : List (List Int)} (h : planB n P = true) : planB n (turnP P) = true := by
  obtain ⟨h1, h2, h3⟩ := planB_p h
  refine planB_mk h1 (by simpa [turnP] using h2) fun R hR => ?_
  obtain ⟨R', hR', rfl⟩ := List.mem_map.1 hR
  exact roundB_neg (h3 R' hR')
theorem planB_double {n : Int} {P : List (List Int)} (h : planB n P = true) (h18 : P.length ≤ 18) : planB n (P ++ turnP P) = true := by
  obtain ⟨h1, h2, h3⟩ := planB_p h
  refine planB_mk h1 (by simp [turnP]; omega) fun R hR => ?_
  rcases List.mem_append.1 hR with hR | hR
  · exact h3 R hR
  · exact (planB_p (planB_turn h)).2.2 R hR
theorem planB_take {n : Int} {P : List (List Int)} (h : planB n P = true) (k : Nat) : planB n (P.take k) = true := by
  obtain ⟨h1, h2, h3⟩ := planB_p h
  exact planB_mk h1 (by rw [List.length_take]; omega) fun R hR => h3 R (List.mem_of_mem_take hR)
theorem planB_swap {n : Int} {P : List (List Int)} {r s : Nat} {R S : List Int} (h : planB n P = true) (hr : P[r]? = some R) (hs : P[s]? = some S) : planB n ((P.set r S).set s R) = true := by
  obtain ⟨h1, h2, h3⟩ := planB_p h
  refine planB_mk h1 (by simpa using h2) fun X hX => ?_
  rcases List.mem_or_eq_of_mem_set hX with hX | rfl
  · rcases List.mem_or_eq_of_mem_set hX with hX | rfl
    · exact h3 X hX
    · exact h3 X (List.mem_of_getElem? hs)
  · exact h3 X (List.mem_of_getElem? hr)
theorem planB_bulk {n : Int} {P : List (List Int)} (h : planB n P = true) : bulk P ≤ 396 := by
  have hr : ∀ R ∈ P, R.length ≤ 10 := fun R hR => by
    obtain ⟨k, hk⟩ := List.mem_iff_getElem?.1 hR
    have := planB_row h hk
    omega
  have h2 := (planB_p h).2.1
  have h3 : ∀ l : List Nat, (∀ x ∈ l, x ≤ 10) → l.sum ≤ 10 * l.length := by
    intro l
    induction l with
    | nil => intro _; simp
    | cons a l ih =>
      intro hl
      have := ih fun x hx => hl x (List.mem_cons_of_mem _ hx)
      have := hl a (List.mem_cons_self ..)
      rw [List.sum_cons, List.length_cons]; omega
  have h4 := h3 (P.map List.length) fun x hx => by
    obtain ⟨R, hR, rfl⟩ := List.mem_map.1 hx
    exact hr R hR
  rw [List.length_map] at h4
  unfold bulk; omega
theorem planB_el {n : Int} {P : List (List Int)} (h : planB n P = true) {R : List Int} (hR : R ∈ P) {x : Int} (hx : x ∈ R) : -10 ≤ x ∧ x ≤ 10 := by
  obtain ⟨k, hk⟩ := List.mem_iff_getElem?.1 hR
  obtain ⟨h1, h2, h3, h4⟩ := planB_row h hk
  obtain ⟨j, hj⟩ := List.mem_iff_getElem?.1 hx
  have := h4 j (List.getElem?_eq_some_iff.1 hj).1
  rw [List.getD_eq_getElem?_getD, hj] at this
  simp only [Option.getD_some] at this
  omega

/-- The pair of clubs of step j of round r of the circle of n clubs. -/
def cirI (n r j : Nat) : Nat := (r + j) % (n - 1)
def cirK (n r j : Nat) : Nat := (r + (n - 1) - j) % (n - 1)
def cirS (n r j : Nat) (R : List Int) : List Int :=
  if j % 2 = 1 then (R.set (cirI n r j) ((cirK n r j : Int) + 1)).set (cirK n r j) (-(cirI n r j : Int) - 1)
  else (R.set (cirK n r j) ((cirI n r j : Int) + 1)).set (cirI n r j) (-(cirK n r j : Int) - 1)
def cir0 (n r : Nat) : List Int :=
  if r % 2 = 1 then ((List.replicate n 0).set (n - 1) ((r : Int) + 1)).set r (-(n : Int))
  else ((List.replicate n 0).set r (n : Int)).set (n - 1) (-(r : Int) - 1)
def cirR (n r : Nat) : Nat → List Int
  | 0 => cir0 n r
  | j + 1 => cirS n r (j + 1) (cirR n r j)
theorem cirS_len (n r j : Nat) (R : List Int) : (cirS n r j R).length = R.length := by unfold cirS; split <;> simp
theorem cir0_len (n r : Nat) : (cir0 n r).length = n := by unfold cir0; split <;> simp
theorem cirR_len (n r : Nat) : ∀ j, (cirR n r j).length = n
  | 0 => cir0_len n r
  | j + 1 => by rw [cirR, cirS_len, cirR_len n r j]
def circP (n : Nat) (r : Nat) : List (List Int) := (List.range r).map fun r => cirR n r (n / 2 - 1)
theorem circ_ok : ∀ (m : Fin 4) (r : Fin 7), r.val < 2 * m.val + 1 → roundB ((2 * m.val + 2 : Nat) : Int) (cirR (2 * m.val + 2) r.val ((2 * m.val + 2) / 2 - 1)) = true := by decide +kernel
theorem circP_snoc (n r : Nat) : circP n (r + 1) = circP n r ++ [cirR n r (n / 2 - 1)] := by
  rw [circP, List.range_succ, List.map_append]; rfl

theorem circP_ok {n : Nat} (h : n = 2 ∨ n = 4 ∨ n = 6 ∨ n = 8) : planB n (circP n (n - 1)) = true := by
  obtain ⟨m, hm, rfl⟩ : ∃ m, m < 4 ∧ n = 2 * m + 2 := ⟨n / 2 - 1, by omega, by omega⟩
  refine planB_mk ?_ (by rw [circP, List.length_map, List.length_range]; omega) fun R hR => ?_
  · rcases h with h | h | h | h <;> rw [h] <;> rfl
  · obtain ⟨r, hr, rfl⟩ := List.mem_map.1 hR
    rw [List.mem_range] at hr
    exact circ_ok ⟨m, hm⟩ ⟨r, by omega⟩ (by show r < 2 * m + 1; omega)
end Go.Proofs.YtofpaekokmkhgaaGreatDoor
namespace Go.Proofs.YtofpaekokmkhgaaGreatDoor
open Go.ChangeShapes Go.WideShapes Go.ChangeAt Go.RowKit

theorem InS.take {w : World} {A : Option Addr} {n c : Nat} {xss : List (List Int)} (h : InS w (.slice A n c) xss) (i : Nat) (hi : i ≤ n) : InS w (.slice A i c) (xss.take i) := by
  obtain ⟨A', c', vs, he, hl, hc, hm, hv, hr⟩ := h
  injection he with h1 h2 h3
  subst h1; subst h3
  refine ⟨A, c, vs.take i, by rw [List.length_take]; congr 1; omega, by rw [List.length_take, List.length_take, hl], by rw [List.length_take]; omega, hm, ?_, ?_⟩
  · rcases hv with hv | ⟨b, off, e, hv⟩
    · exact .inl (by rw [hv]; simp)
    · refine .inr ⟨b, off, e, fun k u hu => hv k u ?_⟩
      rw [List.getElem?_take] at hu
      split at hu
      · exact hu
      · cases hu
  · intro k u xs hu hx
    rw [List.getElem?_take] at hu hx
    split at hu
    · rename_i hk
      rw [if_pos hk] at hx
      exact hr k u xs hu hx
    · cases hu
set_option maxHeartbeats 1000000 in
theorem raceOk1_any (u v : Value) (a b k a' b' k' : Int) (p : Nat) (w : World) (hu : InI w u [a', b', k']) (hv : InI w v [a, b, k]) (hc : w.cell? ⟨p, 0, none⟩ = some v) :
    Calls Tryz.prog 58 #[u, .pointer (some ⟨p, 0, none⟩)] w fun e w' => e = .returned (.bool (samePair [a', b', k'] [a, b, k])) ∧ ∃ q, w' = w.drewN q := by
  obtain ⟨A, c, rfl, _, _, hs⟩ := hu
  obtain ⟨B, d, rfl, _, _, ht⟩ := hv
  obtain ⟨b1, o1, x0, rfl, e0, q0, _⟩ := hs.at_ (k := 0) (by simp)
  obtain ⟨b1', o1', x1, ea, e1, q1, _⟩ := hs.at_ (k := 1) (by simp)
  injection ea with ea; injection ea with ea1 ea2 _; subst ea1; subst ea2
  obtain ⟨b2, o2, y0, rfl, f0, r0, _⟩ := ht.at_ (k := 0) (by simp)
  obtain ⟨b2', o2', y1, ea, f1, r1, _⟩ := ht.at_ (k := 1) (by simp)
  injection ea with ea; injection ea with ea1 ea2 _; subst ea1; subst ea2
  simp only [List.getElem?_cons_zero, List.getElem?_cons_succ, Option.some.injEq] at e0 e1 f0 f1
  subst e0; subst e1; subst f0; subst f1
  replace q0 : w.cell? ⟨b1, o1, none⟩ = some (.int .i64 a') := q0
  replace r0 : w.cell? ⟨b2, o2, none⟩ = some (.int .i64 a) := r0
  clear hs ht
  have HE : Hid (samePair [a', b', k'] [a, b, k] = (a' == a && b' == b)) := rfl
  cases t1 : (a' == a) <;> cases t2 : (b' == b)
  all_goals
    have HT := Lib.hid (And.intro t1 t2)
    go_enter Tryz.func58, Tryz.ntmps58
    go_wp2
    go_quiet (fail)
    go_wp2
    go_ret
    exact ⟨ret_bool (by rw [HE.out, HT.out.1, HT.out.2]; rfl), _, rfl⟩
set_option maxHeartbeats 4000000 in
set_option maxRecDepth 100000 in
theorem implRaceOk_any (v u : Value) (ws : List Int) (gs : List (List Int)) (w : World) (hv : InI w v ws) (hu : InS w u gs) (hw : ws.length ≤ 1048576) (hg : gs.length ≤ 1048576) :
    Calls Tryz.prog 26 #[v, u] w fun e w' => e = .returned (.bool (raceB ws gs)) ∧ Below w.heap.size w w' := by
  have HV := Lib.hid hv
  have HU := Lib.hid hu
  obtain ⟨A, c, rfl, _, _, hs⟩ := hv
  obtain ⟨B, d, us, rfl, -⟩ := hu
  have HS := Lib.hid hs
  clear hs
  cases h1 : inB ws.length 2 6
  case false =>
    have HE : Hid (raceB ws gs = false) := raceB_1 h1
    go_enter Tryz.func26, Tryz.ntmps26
    go_wp2_with (go_at_call 55; refine (within_any _ _ _ _).mono ?_; rintro e w' ⟨rfl, rfl⟩; rw [h1])
    go_ret
    exact ⟨ret_bool (by rw [HE.out]), Below.refl _ _⟩
  cases h2 : ws.all (fun w => inB w 0 200)
  case false =>
    have HE : Hid (raceB ws gs = false) := raceB_2 h2
    go_enter Tryz.func26, Tryz.ntmps26
    go_wp2_with (first
      | (go_at_call 55; refine (within_any _ _ _ _).mono ?_; rintro e w' ⟨rfl, rfl⟩; rw [h1])
      | (go_at_call 56; refine (allWithin_any _ _ ws _ _ _ HS.out hw).mono ?_; rintro e w1 ⟨rfl, hb⟩; rw [h2]; have HB := Lib.hid hb; clear hb))
    go_ret
    exact ⟨ret_bool (by rw [HE.out]), HB.out⟩
  by_cases h3 : gs.length ≤ 15
  case neg =>
    have HE : Hid (raceB ws gs = false) := raceB_3 h3
    go_enter Tryz.func26, Tryz.ntmps26
    go_wp2_with (first
      | (go_at_call 55; refine (within_any _ _ _ _).mono ?_; rintro e w' ⟨rfl, rfl⟩; rw [h1])
      | (go_at_call 56; refine (allWithin_any _ _ ws _ _ _ HS.out hw).mono ?_; rintro e w1 ⟨rfl, hb⟩; rw [h2]; have HB := Lib.hid hb; clear hb))
    go_ret
    exact ⟨ret_bool (by rw [HE.out]), HB.out⟩
  obtain ⟨hn2, hn6⟩ := inB_t.1 h1
  have H12 := Lib.hid (And.intro h1 h2)
  go_enter Tryz.func26, Tryz.ntmps26
  go_wp2_with (first
    | (go_at_call 55; refine (within_any _ _ _ _).mono ?_; rintro e w' ⟨rfl, rfl⟩; rw [h1])
    | (go_at_call 56; refine (allWithin_any _ _ ws _ _ _ HS.out hw).mono ?_; rintro e w1 ⟨rfl, hb⟩; rw [h2]; have HB := Lib.hid hb; clear hb))
  clear h1 h2
  go_loopw [23] (fun i wr => ∃ j : Nat, j ≤ gs.length ∧ i = .int .i64 j ∧ Hid (∀ j', j' < j → rowOk ws.length gs j' = true) ∧ Hid (Below w.heap.size w wr)) (fun i _ => gs.length - (intOf i).toNat)
  case atStart => exact ⟨0, Nat.zero_le _, rfl, fun j' h => absurd h (Nat.not_lt_zero _), HB.out⟩
  case round =>
    obtain ⟨j, hj, rfl, HA, HR⟩ := hrel
    clear HB
    by_cases hlt : j < gs.length
    case neg =>
      obtain rfl : j = gs.length := by omega
      have HE : Hid (raceB ws gs = true) := raceB_5 H12.out.1 H12.out.2 h3 HA.out
      go_wp2
      go_ret
      exact ⟨ret_bool (by rw [HE.out]), HR.out⟩
    obtain ⟨b2, o2, ur, g, rfl, hg1, hg2, hg3, hbl⟩ := (HU.out.below HR.out).at_ (k := j) hlt
    have HG := Lib.hid hg1
    have HI := Lib.hid hg3
    obtain ⟨A2, c2, rfl, _, _, hsl⟩ := hg3
    have hne : ¬ b2 = wr.heap.size := by omega
    clear hg1
    by_cases hl3 : g.length = 3
    case neg =>
      have HE : Hid (raceB ws gs = false) := raceB_4 hlt (rowOk_f1 HG.out (pairB_len hl3))
      have t0 : ((g.length : Int) != 3) = true := by simp; omega
      go_wp2_with fail
      go_quiet (fail)
      go_wp2
      go_ret
      exact ⟨ret_bool (by rw [HE.out]), below_drewN (HR.out.alloc HR.out.size _) _⟩
    obtain ⟨a, b, k, rfl⟩ := three' hl3
    obtain ⟨b1, o1, x0, rfl, e0, q0, hbl1⟩ := hsl.at_ (k := 0) (by simp)
    obtain ⟨b1', o1', x1, ea, e1, q1, _⟩ := hsl.at_ (k := 1) (by simp)
    injection ea with ea; injection ea with ea1 ea2 _; subst ea1; subst ea2
    obtain ⟨b1', o1', x2, ea, e2, q2, _⟩ := hsl.at_ (k := 2) (by simp)
    injection ea with ea; injection ea with ea1 ea2 _; subst ea1; subst ea2
    simp only [List.getElem?_cons_zero, List.getElem?_cons_succ, Option.some.injEq] at e0 e1 e2
    subst e0; subst e1; subst e2
    replace q0 : wr.cell? ⟨b1, o1, none⟩ = some (.int .i64 a) := q0
    have hne1 : ¬ b1 = wr.heap.size := by omega
    clear hsl hl3
    have t0 : (((3 : Nat) : Int) != 3) = false := by decide
    by_cases hp : 0 ≤ a ∧ a < b ∧ b < (ws.length : Int) ∧ 1 ≤ k ∧ k ≤ 20
    case neg =>
      have HE : Hid (raceB ws gs = false) := raceB_4 hlt (rowOk_f1 HG.out (pairB_f hp))
      have hcs : (decide (a < 0) = true) ∨ (decide (a < 0) = false ∧ decide (b ≤ a) = true) ∨ (decide (a < 0) = false ∧ decide (b ≤ a) = false ∧ decide ((ws.length : Int) ≤ b) = true) ∨ (decide (a < 0) = false ∧ decide (b ≤ a) = false ∧ decide ((ws.length : Int) ≤ b) = false ∧ inB k 1 20 = false) := by
        simp only [decide_eq_true_eq, decide_eq_false_iff_not, inB_f]
        omega
      clear hp
      have HWI : Hid (inB k 1 20 = false → ∀ W, Calls Tryz.prog 55 #[.int .i64 k, .int .i64 1, .int .i64 20] W fun e w' => e = .returned (.bool false) ∧ W = w') := fun h W => by have h1 := within_any k 1 20 W; rwa [h] at h1
      rcases hcs with t1 | ⟨t1, t2⟩ | ⟨t1, t2, t3⟩ | ⟨t1, t2, t3, t4⟩
      rotate_left 3
      · have HWI := Lib.hid (HWI.out t4)
        go_wp2_with fail
        go_quiet (first | (go_at_call 55; with_reducible exact quiet_left (HWI.out _)))
        go_wp2
        go_ret
        exact ⟨ret_bool (by rw [HE.out]), below_drewN (HR.out.alloc HR.out.size _) _⟩
      all_goals
        clear HWI
        go_wp2_with fail
        go_quiet (fail)
        go_wp2
        go_ret
        exact ⟨ret_bool (by rw [HE.out]), below_drewN (HR.out.alloc HR.out.size _) _⟩
    have hpb : pairB ws.length [a, b, k] = true := pairB_t.2 hp
    have t1 : decide (a < 0) = false := decide_eq_false (by omega)
    have t2 : decide (b ≤ a) = false := decide_eq_false (by omega)
    have t3 : decide ((ws.length : Int) ≤ b) = false := decide_eq_false (by omega)
    have t4 : inB k 1 20 = true := inB_mk (by omega) (by omega)
    have HPB := Lib.hid hpb
    have HWI : Hid (∀ W, Calls Tryz.prog 55 #[.int .i64 k, .int .i64 1, .int .i64 20] W fun e w' => e = .returned (.bool true) ∧ W = w') := fun W => by have h1 := within_any k 1 20 W; rwa [t4] at h1
    have HC : Hid (∀ (nq q : Nat) (u : Value) (xs : List Int), InI (((wr.alloc (.cells #[.slice (some ⟨b1, o1, none⟩) 3 c2] 23)).drewN nq).drewN q) u xs → xs ∈ gs.take j →
        Calls Tryz.prog 58 (#[u] ++ #[.pointer (some ⟨wr.heap.size, 0, none⟩)]) (((wr.alloc (.cells #[.slice (some ⟨b1, o1, none⟩) 3 c2] 23)).drewN nq).drewN q) fun e w' => e = .returned (.bool (samePair xs [a, b, k])) ∧ ∃ q', w' = ((wr.alloc (.cells #[.slice (some ⟨b1, o1, none⟩) 3 c2] 23)).drewN nq).drewN q') := by
      intro nq q u xs hu hx
      obtain ⟨j', hj', e⟩ := List.getElem_of_mem hx
      have hlt' : j' < j := by rw [List.length_take] at hj'; omega
      have hx' : gs[j']? = some xs := by
        have h1 : (gs.take j)[j']? = some xs := by rw [List.getElem?_eq_getElem hj', e]
        rwa [List.getElem?_take, if_pos hlt'] at h1
      obtain ⟨a', b', k', rfl, _⟩ := pairB_shape (rowOk_pair hx' (HA.out j' hlt'))
      refine (raceOk1_any u _ a b k a' b' k' wr.heap.size _ hu ((((HI.out.below ((Below.refl _ wr).alloc (Nat.le_refl _) _)).drewN nq).drewN q)) (by simp [go_sem])).mono ?_
      rintro e w' ⟨rfl, q', rfl⟩
      exact ⟨rfl, _, World.drewN_drewN _ _ _⟩
    have HTK : Hid (∀ nq, InS ((wr.alloc (.cells #[.slice (some ⟨b1, o1, none⟩) 3 c2] 23)).drewN nq) (.slice (some ⟨b2, o2, none⟩) j d) (gs.take j)) := fun nq =>
      ((((HU.out.below HR.out).take j hj).below ((Below.refl _ wr).alloc (Nat.le_refl _) _)).drewN nq)
    have hjd : j ≤ d := by
      obtain ⟨A', c', vs, he, hl, hc, hm, _⟩ := HU.out
      injection he with _ _ h3
      subst h3; omega
    clear hp hpb
    cases hany : (gs.take j).any (fun h => samePair h [a, b, k])
    · have HN := Lib.hid hany
      have HRW : Hid (∀ j', j' < j + 1 → rowOk ws.length gs j' = true) := by
        intro j' h
        rcases Nat.eq_or_lt_of_le (Nat.le_of_lt_succ h) with rfl | h
        · exact rowOk_any HG.out HPB.out HN.out
        · exact HA.out j' h
      clear hany
      go_wp2_with fail
      go_quiet (first | (go_at_call 55; with_reducible exact quiet_left (HWI.out _)))
      go_wp2_with (go_at_call 57; refine (containsFuncS_any _ (gs.take j) _ (HTK.out nq) (by rw [List.length_take]; omega) 58 #[.pointer (some ⟨wr.heap.size, 0, none⟩)] (fun h => samePair h [a, b, k]) (fun _ _ => by kernel_rfl) (HC.out nq)).mono ?_; rintro e w5 ⟨rfl, q5, rfl⟩; rw [HN.out])
      go_roundw
      case rel => exact ⟨j + 1, by omega, by go_num, HRW, by first | exact below_drewN (below_drewN (HR.out.alloc HR.out.size _) _) _ | exact below_drewN (HR.out.alloc HR.out.size _) _⟩
      case measure => simp [intOf]; omega
    · have HN := Lib.hid hany
      have HE : Hid (raceB ws gs = false) := raceB_4 hlt (rowOk_f3 HG.out hany)
      clear hany
      go_wp2_with fail
      go_quiet (first | (go_at_call 55; with_reducible exact quiet_left (HWI.out _)))
      go_wp2_with (go_at_call 57; refine (containsFuncS_any _ (gs.take j) _ (HTK.out nq) (by rw [List.length_take]; omega) 58 #[.pointer (some ⟨wr.heap.size, 0, none⟩)] (fun h => samePair h [a, b, k]) (fun _ _ => by kernel_rfl) (HC.out nq)).mono ?_; rintro e w5 ⟨rfl, q5, rfl⟩; rw [HN.out])
      go_ret
      exact ⟨ret_bool (by rw [HE.out]), by first | exact below_drewN (below_drewN (HR.out.alloc HR.out.size _) _) _ | exact below_drewN (HR.out.alloc HR.out.size _) _⟩
end Go.Proofs.YtofpaekokmkhgaaGreatDoor
