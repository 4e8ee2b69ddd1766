/- When a race is valid: both packages' contracts. -/
import Derived.Test.YtnmklpjffjlmkaaDoorRa
import Derived.BigQuiet
import Derived.Deep.QuietTactic
namespace Go.Proofs.YtnmklpjffjlmkaaDoor
open Go.ChangeShapes Go.WideShapes Go.ChangeAt Go.RowKit

theorem InS.take {w : World} {A : Option Addr} {n c : Nat} {xss : List (List Int)} (h : InS w (.slice A n c) xss) (i : Nat) (hi : i ≤ n) : InS w (.slice A i c) (xss.take i) := by
  obtain ⟨A', c', vs, he, hl, hc, hm, hv, hr⟩ := h
  injection he with h1 h2 h3
  subst h1; subst h3
  refine ⟨A, c, vs.take i, by rw [List.length_take]; congr 1; omega, by rw [List.length_take, List.length_take, hl], by rw [List.length_take]; omega, hm, ?_, ?_⟩
  · rcases hv with hv | ⟨b, off, e, hv⟩
    · exact .inl (by rw [hv]; simp)
    · refine .inr ⟨b, off, e, fun k u hu => hv k u ?_⟩
      rw [List.getElem?_take] at hu
      split at hu
      · exact hu
      · cases hu
  · intro k u xs hu hx
    rw [List.getElem?_take] at hu hx
    split at hu
    · rename_i hk
      rw [if_pos hk] at hx
      exact hr k u xs hu hx
    · cases hu
set_option maxHeartbeats 1000000 in
theorem raceOk1_any (u v : Value) (a b k a' b' k' : Int) (p : Nat) (w : World) (hu : InI w u [a', b', k']) (hv : InI w v [a, b, k]) (hc : w.cell? ⟨p, 0, none⟩ = some v) :
    Calls Tryd.prog 32 #[u, .pointer (some ⟨p, 0, none⟩)] w fun e w' => e = .returned (.bool (samePair [a', b', k'] [a, b, k])) ∧ ∃ q, w' = w.drewN q := by
  obtain ⟨A, c, rfl, _, _, hs⟩ := hu
  obtain ⟨B, d, rfl, _, _, ht⟩ := hv
  obtain ⟨b1, o1, x0, rfl, e0, q0, _⟩ := hs.at_ (k := 0) (by simp)
  obtain ⟨b1', o1', x1, ea, e1, q1, _⟩ := hs.at_ (k := 1) (by simp)
  injection ea with ea; injection ea with ea1 ea2 _; subst ea1; subst ea2
  obtain ⟨b2, o2, y0, rfl, f0, r0, _⟩ := ht.at_ (k := 0) (by simp)
  obtain ⟨b2', o2', y1, ea, f1, r1, _⟩ := ht.at_ (k := 1) (by simp)
  injection ea with ea; injection ea with ea1 ea2 _; subst ea1; subst ea2
  simp only [List.getElem?_cons_zero, List.getElem?_cons_succ, Option.some.injEq] at e0 e1 f0 f1
  subst e0; subst e1; subst f0; subst f1
  replace q0 : w.cell? ⟨b1, o1, none⟩ = some (.int .i64 a') := q0
  replace r0 : w.cell? ⟨b2, o2, none⟩ = some (.int .i64 a) := r0
  clear hs ht
  have HE : Hid (samePair [a', b', k'] [a, b, k] = (a' == a && b' == b)) := rfl
  cases t1 : (a' == a) <;> cases t2 : (b' == b)
  all_goals
    have HT := Lib.hid (And.intro t1 t2)
    go_enter Tryd.func32, Tryd.ntmps32
    go_wp2
    go_quiet (fail)
    go_wp2
    go_ret
    exact ⟨ret_bool (by rw [HE.out, HT.out.1, HT.out.2]; rfl), _, rfl⟩
set_option maxHeartbeats 4000000 in
set_option maxRecDepth 100000 in
theorem implRaceOk_any (v u : Value) (ws : List Int) (gs : List (List Int)) (w : World) (hv : InI w v ws) (hu : InS w u gs) (hw : ws.length ≤ 1048576) (hg : gs.length ≤ 1048576) :
    Calls Tryd.prog 17 #[v, u] w fun e w' => e = .returned (.bool (raceB ws gs)) ∧ Below w.heap.size w w' := by
  have HV := Lib.hid hv
  have HU := Lib.hid hu
  obtain ⟨A, c, rfl, _, _, hs⟩ := hv
  obtain ⟨B, d, us, rfl, -⟩ := hu
  have HS := Lib.hid hs
  clear hs
  cases h1 : inB ws.length 2 6
  case false =>
    have HE : Hid (raceB ws gs = false) := raceB_1 h1
    go_enter Tryd.func17, Tryd.ntmps17
    go_wp2_with (go_at_call 29; refine (within_any _ _ _ _).mono ?_; rintro e w' ⟨rfl, rfl⟩; rw [h1])
    go_ret
    exact ⟨ret_bool (by rw [HE.out]), Below.refl _ _⟩
  cases h2 : ws.all (fun w => inB w 0 200)
  case false =>
    have HE : Hid (raceB ws gs = false) := raceB_2 h2
    go_enter Tryd.func17, Tryd.ntmps17
    go_wp2_with (first
      | (go_at_call 29; refine (within_any _ _ _ _).mono ?_; rintro e w' ⟨rfl, rfl⟩; rw [h1])
      | (go_at_call 30; refine (allWithin_any _ _ ws _ _ _ HS.out hw).mono ?_; rintro e w1 ⟨rfl, hb⟩; rw [h2]; have HB := Lib.hid hb; clear hb))
    go_ret
    exact ⟨ret_bool (by rw [HE.out]), HB.out⟩
  by_cases h3 : gs.length ≤ 15
  case neg =>
    have HE : Hid (raceB ws gs = false) := raceB_3 h3
    go_enter Tryd.func17, Tryd.ntmps17
    go_wp2_with (first
      | (go_at_call 29; refine (within_any _ _ _ _).mono ?_; rintro e w' ⟨rfl, rfl⟩; rw [h1])
      | (go_at_call 30; refine (allWithin_any _ _ ws _ _ _ HS.out hw).mono ?_; rintro e w1 ⟨rfl, hb⟩; rw [h2]; have HB := Lib.hid hb; clear hb))
    go_ret
    exact ⟨ret_bool (by rw [HE.out]), HB.out⟩
  obtain ⟨hn2, hn6⟩ := inB_t.1 h1
  have H12 := Lib.hid (And.intro h1 h2)
  go_enter Tryd.func17, Tryd.ntmps17
  go_wp2_with (first
    | (go_at_call 29; refine (within_any _ _ _ _).mono ?_; rintro e w' ⟨rfl, rfl⟩; rw [h1])
    | (go_at_call 30; refine (allWithin_any _ _ ws _ _ _ HS.out hw).mono ?_; rintro e w1 ⟨rfl, hb⟩; rw [h2]; have HB := Lib.hid hb; clear hb))
  clear h1 h2
  go_loopw [23] (fun i wr => ∃ j : Nat, j ≤ gs.length ∧ i = .int .i64 j ∧ Hid (∀ j', j' < j → rowOk ws.length gs j' = true) ∧ Hid (Below w.heap.size w wr)) (fun i _ => gs.length - (intOf i).toNat)
  case atStart => exact ⟨0, Nat.zero_le _, rfl, fun j' h => absurd h (Nat.not_lt_zero _), HB.out⟩
  case round =>
    obtain ⟨j, hj, rfl, HA, HR⟩ := hrel
    clear HB
    by_cases hlt : j < gs.length
    case neg =>
      obtain rfl : j = gs.length := by omega
      have HE : Hid (raceB ws gs = true) := raceB_5 H12.out.1 H12.out.2 h3 HA.out
      go_wp2
      go_ret
      exact ⟨ret_bool (by rw [HE.out]), HR.out⟩
    obtain ⟨b2, o2, ur, g, rfl, hg1, hg2, hg3, hbl⟩ := (HU.out.below HR.out).at_ (k := j) hlt
    have HG := Lib.hid hg1
    have HI := Lib.hid hg3
    obtain ⟨A2, c2, rfl, _, _, hsl⟩ := hg3
    have hne : ¬ b2 = wr.heap.size := by omega
    clear hg1
    by_cases hl3 : g.length = 3
    case neg =>
      have HE : Hid (raceB ws gs = false) := raceB_4 hlt (rowOk_f1 HG.out (pairB_len hl3))
      have t0 : ((g.length : Int) != 3) = true := by simp; omega
      go_wp2_with fail
      go_quiet (fail)
      go_wp2
      go_ret
      exact ⟨ret_bool (by rw [HE.out]), below_drewN (HR.out.alloc HR.out.size _) _⟩
    obtain ⟨a, b, k, rfl⟩ := three' hl3
    obtain ⟨b1, o1, x0, rfl, e0, q0, hbl1⟩ := hsl.at_ (k := 0) (by simp)
    obtain ⟨b1', o1', x1, ea, e1, q1, _⟩ := hsl.at_ (k := 1) (by simp)
    injection ea with ea; injection ea with ea1 ea2 _; subst ea1; subst ea2
    obtain ⟨b1', o1', x2, ea, e2, q2, _⟩ := hsl.at_ (k := 2) (by simp)
    injection ea with ea; injection ea with ea1 ea2 _; subst ea1; subst ea2
    simp only [List.getElem?_cons_zero, List.getElem?_cons_succ, Option.some.injEq] at e0 e1 e2
    subst e0; subst e1; subst e2
    replace q0 : wr.cell? ⟨b1, o1, none⟩ = some (.int .i64 a) := q0
    have hne1 : ¬ b1 = wr.heap.size := by omega
    clear hsl hl3
    have t0 : (((3 : Nat) : Int) != 3) = false := by decide
    by_cases hp : 0 ≤ a ∧ a < b ∧ b < (ws.length : Int) ∧ 1 ≤ k ∧ k ≤ 20
    case neg =>
      have HE : Hid (raceB ws gs = false) := raceB_4 hlt (rowOk_f1 HG.out (pairB_f hp))
      have hcs : (decide (a < 0) = true) ∨ (decide (a < 0) = false ∧ decide (b ≤ a) = true) ∨ (decide (a < 0) = false ∧ decide (b ≤ a) = false ∧ decide ((ws.length : Int) ≤ b) = true) ∨ (decide (a < 0) = false ∧ decide (b ≤ a) = false ∧ decide ((ws.length : Int) ≤ b) = false ∧ inB k 1 20 = false) := by
        simp only [decide_eq_true_eq, decide_eq_false_iff_not, inB_f]
        omega
      clear hp
      have HWI : Hid (inB k 1 20 = false → ∀ W, Calls Tryd.prog 29 #[.int .i64 k, .int .i64 1, .int .i64 20] W fun e w' => e = .returned (.bool false) ∧ W = w') := fun h W => by have h1 := within_any k 1 20 W; rwa [h] at h1
      rcases hcs with t1 | ⟨t1, t2⟩ | ⟨t1, t2, t3⟩ | ⟨t1, t2, t3, t4⟩
      rotate_left 3
      · have HWI := Lib.hid (HWI.out t4)
        go_wp2_with fail
        go_quiet (first | (go_at_call 29; with_reducible exact quiet_left (HWI.out _)))
        go_wp2
        go_ret
        exact ⟨ret_bool (by rw [HE.out]), below_drewN (HR.out.alloc HR.out.size _) _⟩
      all_goals
        clear HWI
        go_wp2_with fail
        go_quiet (fail)
        go_wp2
        go_ret
        exact ⟨ret_bool (by rw [HE.out]), below_drewN (HR.out.alloc HR.out.size _) _⟩
    have hpb : pairB ws.length [a, b, k] = true := pairB_t.2 hp
    have t1 : decide (a < 0) = false := decide_eq_false (by omega)
    have t2 : decide (b ≤ a) = false := decide_eq_false (by omega)
    have t3 : decide ((ws.length : Int) ≤ b) = false := decide_eq_false (by omega)
    have t4 : inB k 1 20 = true := inB_mk (by omega) (by omega)
    have HPB := Lib.hid hpb
    have HWI : Hid (∀ W, Calls Tryd.prog 29 #[.int .i64 k, .int .i64 1, .int .i64 20] W fun e w' => e = .returned (.bool true) ∧ W = w') := fun W => by have h1 := within_any k 1 20 W; rwa [t4] at h1
    have HC : Hid (∀ (nq q : Nat) (u : Value) (xs : List Int), InI (((wr.alloc (.cells #[.slice (some ⟨b1, o1, none⟩) 3 c2] 22)).drewN nq).drewN q) u xs → xs ∈ gs.take j →
        Calls Tryd.prog 32 (#[u] ++ #[.pointer (some ⟨wr.heap.size, 0, none⟩)]) (((wr.alloc (.cells #[.slice (some ⟨b1, o1, none⟩) 3 c2] 22)).drewN nq).drewN q) fun e w' => e = .returned (.bool (samePair xs [a, b, k])) ∧ ∃ q', w' = ((wr.alloc (.cells #[.slice (some ⟨b1, o1, none⟩) 3 c2] 22)).drewN nq).drewN q') := by
      intro nq q u xs hu hx
      obtain ⟨j', hj', e⟩ := List.getElem_of_mem hx
      have hlt' : j' < j := by rw [List.length_take] at hj'; omega
      have hx' : gs[j']? = some xs := by
        have h1 : (gs.take j)[j']? = some xs := by rw [List.getElem?_eq_getElem hj', e]
        rwa [List.getElem?_take, if_pos hlt'] at h1
      obtain ⟨a', b', k', rfl, _⟩ := pairB_shape (rowOk_pair hx' (HA.out j' hlt'))
      refine (raceOk1_any u _ a b k a' b' k' wr.heap.size _ hu ((((HI.out.below ((Below.refl _ wr).alloc (Nat.le_refl _) _)).drewN nq).drewN q)) (by simp [go_sem])).mono ?_
      rintro e w' ⟨rfl, q', rfl⟩
      exact ⟨rfl, _, World.drewN_drewN _ _ _⟩
    have HTK : Hid (∀ nq, InS ((wr.alloc (.cells #[.slice (some ⟨b1, o1, none⟩) 3 c2] 22)).drewN nq) (.slice (some ⟨b2, o2, none⟩) j d) (gs.take j)) := fun nq =>
      ((((HU.out.below HR.out).take j hj).below ((Below.refl _ wr).alloc (Nat.le_refl _) _)).drewN nq)
    have hjd : j ≤ d := by
      obtain ⟨A', c', vs, he, hl, hc, hm, _⟩ := HU.out
      injection he with _ _ h3
      subst h3; omega
    clear hp hpb
    cases hany : (gs.take j).any (fun h => samePair h [a, b, k])
    · have HN := Lib.hid hany
      have HRW : Hid (∀ j', j' < j + 1 → rowOk ws.length gs j' = true) := by
        intro j' h
        rcases Nat.eq_or_lt_of_le (Nat.le_of_lt_succ h) with rfl | h
        · exact rowOk_any HG.out HPB.out HN.out
        · exact HA.out j' h
      clear hany
      go_wp2_with fail
      go_quiet (first | (go_at_call 29; with_reducible exact quiet_left (HWI.out _)))
      go_wp2_with (go_at_call 31; refine (containsFuncS_any _ (gs.take j) _ (HTK.out nq) (by rw [List.length_take]; omega) 32 #[.pointer (some ⟨wr.heap.size, 0, none⟩)] (fun h => samePair h [a, b, k]) (fun _ _ => by kernel_rfl) (HC.out nq)).mono ?_; rintro e w5 ⟨rfl, q5, rfl⟩; rw [HN.out])
      go_roundw
      case rel => exact ⟨j + 1, by omega, by go_num, HRW, by first | exact below_drewN (below_drewN (HR.out.alloc HR.out.size _) _) _ | exact below_drewN (HR.out.alloc HR.out.size _) _⟩
      case measure => simp [intOf]; omega
    · have HN := Lib.hid hany
      have HE : Hid (raceB ws gs = false) := raceB_4 hlt (rowOk_f3 HG.out hany)
      clear hany
      go_wp2_with fail
      go_quiet (first | (go_at_call 29; with_reducible exact quiet_left (HWI.out _)))
      go_wp2_with (go_at_call 31; refine (containsFuncS_any _ (gs.take j) _ (HTK.out nq) (by rw [List.length_take]; omega) 32 #[.pointer (some ⟨wr.heap.size, 0, none⟩)] (fun h => samePair h [a, b, k]) (fun _ _ => by kernel_rfl) (HC.out nq)).mono ?_; rintro e w5 ⟨rfl, q5, rfl⟩; rw [HN.out])
      go_ret
      exact ⟨ret_bool (by rw [HE.out]), by first | exact below_drewN (below_drewN (HR.out.alloc HR.out.size _) _) _ | exact below_drewN (HR.out.alloc HR.out.size _) _⟩

set_option maxHeartbeats 4000000 in
set_option maxRecDepth 100000 in
theorem specRaceOk_any (v u : Value) (ws : List Int) (gs : List (List Int)) (w : World) (hv : InI w v ws) (hu : InS w u gs) (hw : ws.length ≤ 1048576) (hg : gs.length ≤ 1048576) :
    Calls Tryd.prog 12 #[v, u] w fun e w' => e = .returned (.bool (raceB ws gs)) ∧ Below w.heap.size w w' := by
  have HV := Lib.hid hv
  have HU := Lib.hid hu
  obtain ⟨A, c, rfl, _, _, hs⟩ := hv
  obtain ⟨B, d, us, rfl, -⟩ := hu
  have HS := Lib.hid hs
  clear hs
  cases h1 : inB ws.length 2 6
  case false =>
    have HE : Hid (raceB ws gs = false) := raceB_1 h1
    go_enter Tryd.func12, Tryd.ntmps12
    go_wp2_with (go_at_call 23; refine (l01In_any _ _ _ _).mono ?_; rintro e w' ⟨rfl, rfl⟩; rw [h1])
    go_ret
    exact ⟨ret_bool (by rw [HE.out]), Below.refl _ _⟩
  by_cases h3 : gs.length ≤ 15
  case neg =>
    have HE : Hid (raceB ws gs = false) := raceB_3 h3
    go_enter Tryd.func12, Tryd.ntmps12
    go_wp2_with (go_at_call 23; refine (l01In_any _ _ _ _).mono ?_; rintro e w' ⟨rfl, rfl⟩; rw [h1])
    go_ret
    exact ⟨ret_bool (by rw [HE.out]), Below.refl _ _⟩
  obtain ⟨hn2, hn6⟩ := inB_t.1 h1
  have H1 := Lib.hid h1
  generalize hN : ws.length = N at *
  have HN := Lib.hid hN
  clear hN
  go_enter Tryd.func12, Tryd.ntmps12
  go_wp2_with (go_at_call 23; refine (l01In_any _ _ _ _).mono ?_; rintro e w' ⟨rfl, rfl⟩; rw [h1])
  clear h1
  go_loop [24] (fun i => ∃ j : Nat, j ≤ N ∧ i = .int .i64 j ∧ Hid ((ws.take j).all (fun w => inB w 0 200) = true)) (fun i => N - (intOf i).toNat)
  case atStart => exact ⟨0, Nat.zero_le _, rfl, rfl⟩
  case round =>
    obtain ⟨j, hj, rfl, HT⟩ := hrel
    by_cases hlt : j < N
    case pos =>
      obtain ⟨b, off, x, rfl, hx1, hx2, _⟩ := HS.out.at_ (k := j) (by rw [HN.out]; exact hlt)
      have HX := Lib.hid hx1
      clear hx1
      cases hx : inB x 0 200
      · have HE : Hid (raceB ws gs = false) := raceB_2 (List.all_eq_false.2 ⟨x, List.mem_of_getElem? HX.out, by simp [hx]⟩)
        go_wp2_with (go_at_call 23; refine (l01In_any _ _ _ _).mono ?_; rintro e w' ⟨rfl, rfl⟩; rw [hx])
        go_ret
        exact ⟨ret_bool (by rw [HE.out]), Below.refl _ _⟩
      · have HT2 : Hid ((ws.take (j + 1)).all (fun w => inB w 0 200) = true) := all_take_snoc HT.out HX.out hx
        go_wp2_with (go_at_call 23; refine (l01In_any _ _ _ _).mono ?_; rintro e w' ⟨rfl, rfl⟩; rw [hx])
        go_round
        case rel => exact ⟨j + 1, by omega, by go_num, HT2.out⟩
        case measure => simp [intOf]; omega
    obtain rfl : j = N := by omega
    have H2 : Hid (ws.all (fun w => inB w 0 200) = true) := by
      have h := HT.out
      rwa [List.take_of_length_le (by rw [HN.out]; exact Nat.le_refl _)] at h
    clear HT
    go_wp2_with fail
    go_loopw [34] (fun i wr => ∃ q : Nat, q ≤ gs.length ∧ i = .int .i64 q ∧ Hid (∀ j', j' < q → rowOk j gs j' = true) ∧ Hid (Below w.heap.size w wr)) (fun i _ => gs.length - (intOf i).toNat)
    case atStart => exact ⟨0, Nat.zero_le _, rfl, fun j' h => absurd h (Nat.not_lt_zero _), Below.refl _ _⟩
    case round =>
      obtain ⟨q, hq, rfl, HA, HR⟩ := hrel
      by_cases hlt : q < gs.length
      case neg =>
        obtain rfl : q = gs.length := by omega
        have HE : Hid (raceB ws gs = true) := raceB_5 (by rw [HN.out]; exact H1.out) H2.out h3 (by rw [HN.out]; exact HA.out)
        go_wp2
        go_ret
        exact ⟨ret_bool (by rw [HE.out]), HR.out⟩
      obtain ⟨b2, o2, ur, g, rfl, hg1, hg2, hg3, hbl⟩ := (HU.out.below HR.out).at_ (k := q) hlt
      have HG := Lib.hid hg1
      obtain ⟨A2, c2, rfl, _, _, hsl⟩ := hg3
      obtain ⟨wo, hwo⟩ : ∃ W, W = wr := ⟨wr, rfl⟩
      clear hg1
      have hF1 : Hid (rowOk j gs q = false → raceB ws gs = false) := fun h => raceB_4 hlt (by rw [HN.out]; exact h)
      by_cases hl3 : g.length = 3
      case neg =>
        have HE : Hid (raceB ws gs = false) := hF1.out (rowOk_f1 HG.out (pairB_len hl3))
        have t0 : ((g.length : Int) != 3) = true := by simp; omega
        go_wp2_with fail
        go_quiet (fail)
        go_wp2
        go_ret
        exact ⟨ret_bool (by rw [HE.out]), below_drewN HR.out _⟩
      obtain ⟨a, b, k, rfl⟩ := three' hl3
      obtain ⟨b1, o1, x0, rfl, e0, q0, hbl1⟩ := hsl.at_ (k := 0) (by simp)
      obtain ⟨b1', o1', x1, ea, e1, q1, _⟩ := hsl.at_ (k := 1) (by simp)
      injection ea with ea; injection ea with ea1 ea2 _; subst ea1; subst ea2
      obtain ⟨b1', o1', x2, ea, e2, q2, _⟩ := hsl.at_ (k := 2) (by simp)
      injection ea with ea; injection ea with ea1 ea2 _; subst ea1; subst ea2
      simp only [List.getElem?_cons_zero, List.getElem?_cons_succ, Option.some.injEq] at e0 e1 e2
      subst e0; subst e1; subst e2
      replace q0 : wr.cell? ⟨b1, o1, none⟩ = some (.int .i64 a) := q0
      have HQ : Hid (wr.cell? ⟨b1, o1, none⟩ = some (.int .i64 a) ∧ wr.cell? ⟨b1, o1 + 1, none⟩ = some (.int .i64 b)) := ⟨q0, q1⟩
      clear hsl hl3
      have t0 : (((3 : Nat) : Int) != 3) = false := by decide
      have ewn : IntKind.i64.wrap ((j : Int) - 1) = (j : Int) - 1 := by rw [IntKind.wrap_i64]; omega
      have HI : Hid (∀ (x lo hi : Int) (r : Bool), inB x lo hi = r → ∀ W, Calls Tryd.prog 23 #[.int .i64 x, .int .i64 lo, .int .i64 hi] W fun e w' => e = .returned (.bool r) ∧ W = w') := fun x lo hi r h W => by have h1 := l01In_any x lo hi W; rwa [h] at h1
      by_cases hp : 0 ≤ a ∧ a < b ∧ b < (j : Int) ∧ 1 ≤ k ∧ k ≤ 20
      case neg =>
        have HE : Hid (raceB ws gs = false) := hF1.out (rowOk_f1 HG.out (pairB_f hp))
        cases u1 : inB a 0 ((j : Int) - 1)
        · have F1 := Lib.hid (HI.out _ _ _ _ u1)
          clear hp
          go_wp2_with fail
          go_quiet (first | (go_at_call 23; with_reducible exact quiet_left (F1.out _)))
          go_wp2
          go_ret
          exact ⟨ret_bool (by rw [HE.out]), below_drewN HR.out _⟩
        obtain ⟨a0, a1⟩ := inB_t.1 u1
        have ewa : IntKind.i64.wrap (a + 1) = a + 1 := by rw [IntKind.wrap_i64]; omega
        have F1 := Lib.hid (HI.out _ _ _ _ u1)
        cases u2 : inB b (a + 1) ((j : Int) - 1)
        · have F2 := Lib.hid (HI.out _ _ _ _ u2)
          clear hp
          go_wp2_with fail
          go_quiet (first | (go_at_call 23; with_reducible exact quiet_left (F1.out _)) | (go_at_call 23; with_reducible exact quiet_left (F2.out _)))
          go_wp2
          go_ret
          exact ⟨ret_bool (by rw [HE.out]), below_drewN HR.out _⟩
        obtain ⟨b0, b1'⟩ := inB_t.1 u2
        have u3 : inB k 1 20 = false := by rw [inB_f]; omega
        have F2 := Lib.hid (HI.out _ _ _ _ u2)
        have F3 := Lib.hid (HI.out _ _ _ _ u3)
        clear hp
        go_wp2_with fail
        go_quiet (first | (go_at_call 23; with_reducible exact quiet_left (F1.out _)) | (go_at_call 23; with_reducible exact quiet_left (F2.out _)) | (go_at_call 23; with_reducible exact quiet_left (F3.out _)))
        go_wp2
        go_ret
        exact ⟨ret_bool (by rw [HE.out]), below_drewN HR.out _⟩
      have HPB := Lib.hid (pairB_t.2 hp)
      have ewa : IntKind.i64.wrap (a + 1) = a + 1 := by rw [IntKind.wrap_i64]; omega
      have F1 := Lib.hid (HI.out a 0 ((j : Int) - 1) true (inB_mk (by omega) (by omega)))
      have F2 := Lib.hid (HI.out b (a + 1) ((j : Int) - 1) true (inB_mk (by omega) (by omega)))
      have F3 := Lib.hid (HI.out k 1 20 true (inB_mk (by omega) (by omega)))
      have hqd : q ≤ d := by
        obtain ⟨A', c', vs, he, hl, hc, hm, _⟩ := HU.out
        injection he with _ _ h3
        subst h3; omega
      clear hp HI
      go_wp2_with fail
      go_quiet (first | (go_at_call 23; with_reducible exact quiet_left (F1.out _)) | (go_at_call 23; with_reducible exact quiet_left (F2.out _)) | (go_at_call 23; with_reducible exact quiet_left (F3.out _)))
      go_wp2_with fail
      have HR1 : Hid (Below w.heap.size w (wr.drewN nq) ∧ Below wr.heap.size wr (wr.drewN nq)) := ⟨below_drewN HR.out _, below_drewN (Below.refl _ _) _⟩
      go_loopw [75] (fun i wi => ∃ p : Nat, p ≤ q ∧ i = .int .i64 p ∧ Hid (∀ (j' : Nat) (x : List Int), j' < p → gs[j']? = some x → samePair x [a, b, k] = false) ∧ Hid (Below w.heap.size w wi ∧ Below wr.heap.size wr wi)) (fun i _ => q - (intOf i).toNat)
      case atStart => exact ⟨0, Nat.zero_le _, rfl, fun j' _ h => absurd h (Nat.not_lt_zero _), HR1.out⟩
      case round =>
        obtain ⟨p, hp, rfl, HP, HW⟩ := hrel
        subst hwo
        by_cases hlt2 : p < q
        case neg =>
          obtain rfl : p = q := by omega
          have HRW : Hid (∀ j', j' < p + 1 → rowOk j gs j' = true) := by
            intro j' h
            rcases Nat.eq_or_lt_of_le (Nat.le_of_lt_succ h) with rfl | h
            · exact rowOk_go HG.out HPB.out HP.out
            · exact HA.out j' h
          go_wp2
          go_roundw
          case rel => exact ⟨p + 1, by omega, by go_num, HRW, HW.out.1⟩
          case measure => simp [intOf]; omega
        obtain ⟨b3, o3, uy, y, e3, hy1, hy2, hy3, hbl3⟩ := (HU.out.below HW.out.1).at_ (k := p) (by omega)
        injection e3 with e3; injection e3 with r1 r2 _; subst r1; subst r2
        obtain ⟨a', b', k', rfl, -⟩ := pairB_shape (rowOk_pair hy1 (HA.out p hlt2))
        obtain ⟨A3, c3, rfl, _, _, hsl3⟩ := hy3
        obtain ⟨b4, o4, y0, rfl, f0, r0, _⟩ := hsl3.at_ (k := 0) (by simp)
        obtain ⟨b4', o4', y1, ea, f1, r1, _⟩ := hsl3.at_ (k := 1) (by simp)
        injection ea with ea; injection ea with ea1 ea2 _; subst ea1; subst ea2
        simp only [List.getElem?_cons_zero, List.getElem?_cons_succ, Option.some.injEq] at f0 f1
        subst f0; subst f1
        replace r0 : wr.cell? ⟨b4, o4, none⟩ = some (.int .i64 (a' : Int)) := r0
        have q0 : wr.cell? ⟨b1, o1, none⟩ = some (.int .i64 a) := (HW.out.2.cell (p := ⟨b1, o1, none⟩) hbl1).trans HQ.out.1
        have q1 : wr.cell? ⟨b1, o1 + 1, none⟩ = some (.int .i64 b) := (HW.out.2.cell (p := ⟨b1, o1 + 1, none⟩) hbl1).trans HQ.out.2
        have HY := Lib.hid hy1
        have HSP : Hid (samePair [(a' : Int), (b' : Int), (k' : Int)] [a, b, k] = ((a' : Int) == a && (b' : Int) == b)) := rfl
        clear hsl3 hy1
        have hfin : ∀ (r : Bool), ((a' : Int) == a && (b' : Int) == b) = r → samePair [(a' : Int), (b' : Int), (k' : Int)] [a, b, k] = r := fun r h => by rw [HSP.out, h]
        have HFIN := Lib.hid hfin
        clear hfin
        cases t1 : ((a' : Int) == a)
        · have HNX : Hid (∀ (j' : Nat) (x : List Int), j' < p + 1 → gs[j']? = some x → samePair x [a, b, k] = false) := by
            intro j' x h hx
            rcases Nat.eq_or_lt_of_le (Nat.le_of_lt_succ h) with rfl | h
            · rw [HY.out] at hx; injection hx with hx; subst hx
              exact HFIN.out false (by rw [t1]; rfl)
            · exact HP.out j' x h hx
          go_wp2_with fail
          go_quiet (fail)
          go_wp2
          go_roundw
          case rel => exact ⟨p + 1, by omega, by go_num, HNX, below_drewN HW.out.1 _, below_drewN HW.out.2 _⟩
          case measure => simp [intOf]; omega
        · cases t2 : ((b' : Int) == b)
          · have HNX : Hid (∀ (j' : Nat) (x : List Int), j' < p + 1 → gs[j']? = some x → samePair x [a, b, k] = false) := by
              intro j' x h hx
              rcases Nat.eq_or_lt_of_le (Nat.le_of_lt_succ h) with rfl | h
              · rw [HY.out] at hx; injection hx with hx; subst hx
                exact HFIN.out false (by rw [t1, t2]; rfl)
              · exact HP.out j' x h hx
            go_wp2_with fail
            go_quiet (fail)
            go_wp2
            go_roundw
            case rel => exact ⟨p + 1, by omega, by go_num, HNX, below_drewN HW.out.1 _, below_drewN HW.out.2 _⟩
            case measure => simp [intOf]; omega
          · have HE : Hid (raceB ws gs = false) := hF1.out (rowOk_f2 HG.out hlt2 HY.out (HFIN.out true (by rw [t1, t2]; rfl)))
            go_wp2_with fail
            go_quiet (fail)
            go_wp2
            go_ret
            exact ⟨ret_bool (by rw [HE.out]), below_drewN HW.out.1 _⟩
end Go.Proofs.YtnmklpjffjlmkaaDoor
