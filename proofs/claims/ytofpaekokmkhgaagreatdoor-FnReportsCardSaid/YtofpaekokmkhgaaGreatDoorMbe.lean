/- Valid plans of rounds: the plain law. -/
import Derived.Test.YtofpaekokmkhgaaGreatDoorStd
import Derived.Test.YtofpaekokmkhgaaGreatDoorMac
import Derived.Deep.Draws
namespace Go.Proofs.YtofpaekokmkhgaaGreatDoor
open Go.ChangeShapes Go.WideShapes Go.ChangeAt Go.RowKit

def allTo (p : Nat → Bool) : Nat → Bool
  | 0 => true
  | j + 1 => allTo p j && p j
theorem allTo_hit {p : Nat → Bool} {k n : Nat} (hk : k < n) (hp : p k = false) : allTo p n = false := by
  induction n with
  | zero => omega
  | succ n ih =>
    unfold allTo
    by_cases h : k = n
    · subst h; rw [hp]; simp
    · rw [ih (by omega)]; rfl
theorem allTo_t {p : Nat → Bool} {n : Nat} : allTo p n = true ↔ ∀ k, k < n → p k = true := by
  induction n with
  | zero => simp [allTo]
  | succ n ih =>
    unfold allTo
    rw [Bool.and_eq_true, ih]
    constructor
    · rintro ⟨h1, h2⟩ k hk
      by_cases h : k = n
      · subst h; exact h2
      · exact h1 k (by omega)
    · intro h
      exact ⟨fun k hk => h k (by omega), h n (by omega)⟩
theorem allTo_congr {p q : Nat → Bool} {n : Nat} (h : ∀ k, k < n → p k = q k) : allTo p n = allTo q n := by
  induction n with
  | zero => rfl
  | succ n ih => unfold allTo; rw [ih (fun k hk => h k (by omega)), h n (by omega)]
def opp (x : Int) : Int := max x (-x) - 1
def sgn (x : Int) : Int := if 0 < x then 1 else -1
def elB (n : Int) (R : List Int) (k : Nat) : Bool :=
  !(R.getD k 0 == 0) && (inB (R.getD k 0) (-n) n && (!(opp (R.getD k 0) == (k : Int)) && (R.getD (opp (R.getD k 0)).toNat 0 == ((k : Int) + 1) * sgn (-(R.getD k 0)))))
def el1 (n : Int) (R : List Int) (k : Nat) : Bool := inB (R.getD k 0) (-n) n && !(R.getD k 0 == 0)
def el2 (R : List Int) (k : Nat) : Bool :=
  !(opp (R.getD k 0) == (k : Int)) && (opp (R.getD (opp (R.getD k 0)).toNat 0) == (k : Int) && !(decide (0 < R.getD k 0) == decide (0 < R.getD (opp (R.getD k 0)).toNat 0)))
def roundB (n : Int) (R : List Int) : Bool := decide ((R.length : Int) = n) && allTo (elB n R) R.length
theorem opp_eq (x : Int) : opp x = if 0 < x then x - 1 else -x - 1 := by unfold opp; split <;> omega
theorem elB_of {n : Int} {R : List Int} (hl : (R.length : Int) = n) (h1 : allTo (el1 n R) R.length = true) {k : Nat} (hk : k < R.length) : elB n R k = el2 R k := by
  have hall := allTo_t.1 h1
  have hk1 := hall k hk
  unfold el1 at hk1
  rw [Bool.and_eq_true] at hk1
  obtain ⟨a1, a2⟩ := hk1
  unfold elB el2
  rw [a2, a1, Bool.true_and, Bool.true_and]
  have a3 := inB_t.1 a1
  have a4 : R.getD k 0 ≠ 0 := by simpa using a2
  have ho : 0 ≤ opp (R.getD k 0) ∧ opp (R.getD k 0) < R.length := by rw [opp_eq]; split <;> omega
  have hj := hall (opp (R.getD k 0)).toNat (by omega)
  unfold el1 at hj
  rw [Bool.and_eq_true] at hj
  obtain ⟨b1, b2⟩ := hj
  have b4 : R.getD (opp (R.getD k 0)).toNat 0 ≠ 0 := by simpa using b2
  generalize R.getD (opp (R.getD k 0)).toNat 0 = y at *
  generalize R.getD k 0 = x at *
  congr 1
  rw [Bool.eq_iff_iff]
  simp only [beq_iff_eq, Bool.and_eq_true, Bool.not_eq_true', beq_eq_false_iff_ne, ne_eq, decide_eq_decide]
  rw [opp_eq y]
  unfold sgn
  split <;> split <;> constructor <;> intro h <;> first | omega | (refine ⟨by omega, ?_⟩; omega)
theorem roundB_len {n : Int} {R : List Int} (h : ¬ (R.length : Int) = n) : roundB n R = false := by simp [roundB, h]
theorem roundB_hit {n : Int} {R : List Int} {k : Nat} (hk : k < R.length) (h : elB n R k = false) : roundB n R = false := by
  unfold roundB; rw [allTo_hit hk h, Bool.and_false]
theorem roundB_t {n : Int} {R : List Int} (hl : (R.length : Int) = n) (h : allTo (elB n R) R.length = true) : roundB n R = true := by
  unfold roundB; rw [h, decide_eq_true hl]; rfl
theorem roundB_hit1 {n : Int} {R : List Int} {k : Nat} (hk : k < R.length) (h : el1 n R k = false) : roundB n R = false := by
  refine roundB_hit hk ?_
  unfold el1 at h
  unfold elB
  rw [Bool.and_eq_false_iff] at h
  rcases h with h | h
  · rw [h]; simp
  · rw [h]; simp
theorem roundB_hit2 {n : Int} {R : List Int} {k : Nat} (hl : (R.length : Int) = n) (h1 : allTo (el1 n R) R.length = true) (hk : k < R.length) (h : el2 R k = false) : roundB n R = false :=
  roundB_hit hk (by rw [elB_of hl h1 hk]; exact h)
theorem roundB_t2 {n : Int} {R : List Int} (hl : (R.length : Int) = n) (h1 : allTo (el1 n R) R.length = true) (h2 : allTo (el2 R) R.length = true) : roundB n R = true :=
  roundB_t hl (by rw [allTo_congr (fun k hk => elB_of hl h1 hk)]; exact h2)
def clubsB (n : Int) : Bool := inB n 2 10 && n % 2 == 0
def planB (n : Int) (P : List (List Int)) : Bool := clubsB n && (decide (P.length ≤ 36) && P.all (roundB n))
theorem planB_n {n : Int} {P : List (List Int)} (h : clubsB n = false) : planB n P = false := by simp [planB, h]
theorem planB_len {n : Int} {P : List (List Int)} (h : ¬ P.length ≤ 36) : planB n P = false := by simp [planB, h]
theorem planB_hit {n : Int} {P : List (List Int)} {R : List Int} {k : Nat} (hk : P[k]? = some R) (h : roundB n R = false) : planB n P = false := by
  unfold planB
  rw [show P.all (roundB n) = false from List.all_eq_false.2 ⟨R, List.mem_of_getElem? hk, by simp [h]⟩]
  simp
theorem planB_t {n : Int} {P : List (List Int)} (h1 : clubsB n = true) (h2 : P.length ≤ 36) (h3 : (P.take P.length).all (roundB n) = true) : planB n P = true := by
  rw [List.take_length] at h3
  simp [planB, h1, h2, h3]
theorem all_snoc {P : List (List Int)} {p : List Int → Bool} {R : List Int} {k : Nat} (hk : P[k]? = some R) (h : (P.take k).all p = true) (hr : p R = true) : (P.take (k + 1)).all p = true := by
  rw [take_snoc hk, List.all_append, h]; simp [hr]

theorem isClubs_any (n : Int) (w : World) :
    Calls Tryz.prog 68 #[.int .i64 n] w fun e w' => e = .returned (.bool (clubsB n)) ∧ w = w' := by
  cases h : inB n 2 10
  case false =>
    go_enter Tryz.func68, Tryz.ntmps68
    go_wp2_with (go_at_call 55; refine (within_any _ _ _ _).mono ?_; rintro e w' ⟨rfl, rfl⟩)
    go_ret
    exact ⟨by simp [clubsB, h], rfl⟩
  have hb := inB_t.1 h
  have hm : Int.tmod n 2 = n % 2 := Int.tmod_eq_emod_of_nonneg (by omega)
  go_enter Tryz.func68, Tryz.ntmps68
  go_wp2_with (go_at_call 55; refine (within_any _ _ _ _).mono ?_; rintro e w' ⟨rfl, rfl⟩)
  go_ret
  exact ⟨by simp [clubsB, h], rfl⟩

theorem l16Size_any (n : Int) (w : World) :
    Calls Tryz.prog 71 #[.int .i64 n] w fun e w' => e = .returned (.bool (clubsB n)) ∧ w = w' := by
  cases h : inB n 2 10
  case false =>
    go_enter Tryz.func71, Tryz.ntmps71
    go_wp2_with (go_at_call 88; refine (l01In_any _ _ _ _).mono ?_; rintro e w' ⟨rfl, rfl⟩)
    go_ret
    exact ⟨by simp [clubsB, h], rfl⟩
  have hb := inB_t.1 h
  have hm : Int.tmod n 2 = n % 2 := Int.tmod_eq_emod_of_nonneg (by omega)
  go_enter Tryz.func71, Tryz.ntmps71
  go_wp2_with (go_at_call 88; refine (l01In_any _ _ _ _).mono ?_; rintro e w' ⟨rfl, rfl⟩)
  go_ret
  exact ⟨by simp [clubsB, h], rfl⟩

theorem sign_any (v s : Int) (w : World) (hs : sgn v = s) :
    Calls Tryz.prog 70 #[.int .i64 v] w fun e w' => e = .returned (.int .i64 s) ∧ w = w' := by
  subst hs
  by_cases h : 0 < v
  all_goals
    go_enter Tryz.func70, Tryz.ntmps70
    go_wp2
    go_ret
    exact ⟨by simp [sgn, h], rfl⟩

theorem l16Other_any (x o : Int) (w : World) (ho : opp x = o) (h0 : -1000 ≤ x) (h1 : x ≤ 1000) :
    Calls Tryz.prog 89 #[.int .i64 x] w fun e w' => e = .returned (.int .i64 o) ∧ w = w' := by
  subst ho
  by_cases h : 0 < x
  all_goals
    go_enter Tryz.func89, Tryz.ntmps89
    go_wp2
    all_goals
      go_ret
      exact ⟨ret_int (by rw [opp_eq]; split <;> omega), rfl⟩

theorem opponent_any (A : Option Addr) (c n : Nat) (R : List Int) (k : Nat) (x o : Int) (w : World) (hs : SlI w A R) (hl : R.length = n) (hk : k < n) (hx : R.getD k 0 = x) (ho : opp x = o) (h0 : -1000 ≤ x) (h1 : x ≤ 1000) :
    Calls Tryz.prog 69 #[.slice A n c, .int .i64 k] w fun e w' => e = .returned (.int .i64 o) ∧ ∃ m, w' = w.drewN m := by
  obtain ⟨b, off, x', rfl, hx', hc, -⟩ := hs.at_ (k := k) (by omega)
  obtain rfl : x' = x := by rw [← hx, List.getD_eq_getElem?_getD, hx']; rfl
  clear hx hx' hs
  rw [opp_eq] at ho
  rcases Int.lt_trichotomy x' 0 with h | rfl | h
  · rw [if_neg (by omega)] at ho
    have HO := Lib.hid ho
    clear ho
    go_enter Tryz.func69, Tryz.ntmps69
    go_wp2
    go_quiet (fail)
    go_wp2
    go_ret
    exact ⟨ret_int HO.out, _, rfl⟩
  · have HO := Lib.hid ho
    clear ho
    go_enter Tryz.func69, Tryz.ntmps69
    go_wp2
    go_quiet (fail)
    go_wp2
    go_ret
    exact ⟨ret_int HO.out, _, rfl⟩
  · rw [if_pos h] at ho
    have HO := Lib.hid ho
    clear ho
    go_enter Tryz.func69, Tryz.ntmps69
    go_wp2
    go_quiet (fail)
    go_wp2
    go_ret
    exact ⟨ret_int HO.out, _, rfl⟩

theorem dd {w wt : World} (h : ∃ d, wt = w.drewN d) (n : Nat) : ∃ d, wt.drewN n = w.drewN d := by
  obtain ⟨d, rfl⟩ := h
  exact ⟨_, World.drewN_drewN _ _ _⟩
theorem wrapS (q : Nat) (s : Int) (x : Int) (hs : sgn x = s) (hq : q ≤ 1000) : IntKind.i64.wrap (((q : Int) + 1) * s) = ((q : Int) + 1) * s := by
  subst hs
  unfold sgn
  split
  · rw [IntKind.wrap_i64]; omega
  · rw [IntKind.wrap_i64]; omega
end Go.Proofs.YtofpaekokmkhgaaGreatDoor
namespace Go.Proofs.YtofpaekokmkhgaaGreatDoor
open Go.ChangeShapes Go.WideShapes Go.ChangeAt Go.RowKit

set_option maxHeartbeats 4000000 in
set_option maxRecDepth 100000 in
theorem specPlanOk_any (n : Int) (v : Value) (P : List (List Int)) (w : World) (hs : InS w v P) (hn : bulk P ≤ 1048576) :
    Calls Tryz.prog 74 #[.int .i64 n, v] w fun e w' => e = .returned (.bool (planB n P)) ∧ ∃ d, w' = w.drewN d := by
  have HS := Lib.hid hs
  obtain ⟨A, c, vs, rfl, hvl, hc, hm, -, -⟩ := hs
  have hbl := bulk_len P
  have HBR : Hid (∀ (k : Nat) (xs : List Int), P[k]? = some xs → xs.length ≤ 1048576) := fun k xs h => Nat.le_trans (bulk_row h) hn
  generalize hl : P.length = N at *
  have HL := Lib.hid hl
  clear hl hvl
  unfold maxLen at hm
  cases h1 : clubsB n
  case false =>
    go_enter Tryz.func74, Tryz.ntmps74
    go_wp2_with (go_at_call 71; refine (l16Size_any _ _).mono ?_; rintro e w' ⟨rfl, rfl⟩; rw [h1])
    go_ret
    exact ⟨ret_bool (planB_n h1).symm, 0, rfl⟩
  by_cases h2 : N ≤ 36
  case neg =>
    go_enter Tryz.func74, Tryz.ntmps74
    go_wp2_with (go_at_call 71; refine (l16Size_any _ _).mono ?_; rintro e w' ⟨rfl, rfl⟩; rw [h1])
    go_ret
    exact ⟨ret_bool (planB_len (by rw [HL.out]; exact h2)).symm, 0, rfl⟩
  have hnr : 2 ≤ n ∧ n ≤ 10 := by
    unfold clubsB at h1
    rw [Bool.and_eq_true] at h1
    exact inB_t.1 h1.1
  have H1 := Lib.hid h1
  go_enter Tryz.func74, Tryz.ntmps74
  go_wp2_with (go_at_call 71; refine (l16Size_any _ _).mono ?_; rintro e w' ⟨rfl, rfl⟩; rw [h1])
  clear h1
  go_loopw [22] (fun i wr => ∃ j : Nat, j ≤ N ∧ i = .int .i64 j ∧ Hid ((P.take j).all (roundB n) = true) ∧ Hid (∃ d, wr = w.drewN d)) (fun i _ => N - (intOf i).toNat)
  case atStart => exact ⟨0, Nat.zero_le _, rfl, rfl, 0, rfl⟩
  case round =>
    obtain ⟨j, hj, rfl, HP, HD⟩ := hrel
    have HSW : Hid (InS wr (.slice A N c) P) := by obtain ⟨d, rfl⟩ := HD.out; exact InS.below HS.out (below_of_drewN _ _ _)
    by_cases hlt : j < N
    case neg =>
      obtain rfl : j = N := by omega
      go_wp2
      go_ret
      exact ⟨ret_bool (planB_t H1.out (by rw [HL.out]; exact h2) (by rw [HL.out]; exact HP.out)).symm, HD.out⟩
    obtain ⟨b, off, u, R, rfl, hu, hcell, hin, -⟩ := HSW.out.at_ (k := j) (by rw [HL.out]; exact hlt)
    have HU := Lib.hid hu
    have hRl := HBR.out j R hu
    obtain ⟨A1, c1, rfl, hc1, hm1, hsl⟩ := hin
    unfold maxLen at hm1
    have HR := Lib.hid hsl
    clear hu hsl
    generalize hrl : R.length = m at *
    have HRL := Lib.hid hrl
    clear hrl
    by_cases h3 : (m : Int) = n
    case neg =>
      go_wp2
      go_ret
      exact ⟨ret_bool (planB_hit HU.out (roundB_len (by rw [HRL.out]; exact h3))).symm, HD.out⟩
    subst h3
    have J1 : IntKind.i64.wrap (-(m : Int)) = -(m : Int) := by rw [IntKind.wrap_i64]; omega
    go_wp2
    go_loopw [32] (fun i wt => ∃ q : Nat, q ≤ m ∧ i = .int .i64 q ∧ Hid (allTo (el1 m R) q = true) ∧ Hid (SlI wt A1 R) ∧ Hid (∃ d, wt = w.drewN d)) (fun i _ => m - (intOf i).toNat)
    case atStart => exact ⟨0, Nat.zero_le _, rfl, rfl, HR.out, HD.out⟩
    case round =>
      rename_i wt
      obtain ⟨q, hq, rfl, HQ, HR, HDD⟩ := hrel
      by_cases hlt2 : q < m
      case pos =>
        obtain ⟨b2, o2, x, rfl, hx, hcx, -⟩ := HR.out.at_ (k := q) (by rw [HRL.out]; exact hlt2)
        have HX : Hid (R.getD q 0 = x) := by show _ = _; rw [List.getD_eq_getElem?_getD, hx]; rfl
        have HBAD : Hid (el1 m R q = false → planB m P = false) := fun h => planB_hit HU.out (roundB_hit1 (by rw [HRL.out]; exact hlt2) h)
        clear hx
        cases e1 : inB x (-m) m
        case false =>
          go_wp2_with (go_at_call 88; refine (l01In_any _ _ _ _).mono ?_; rintro e w' ⟨rfl, rfl⟩)
          go_ret
          exact ⟨ret_bool (HBAD.out (by unfold el1; rw [HX.out, e1]; rfl)).symm, HDD.out⟩
        cases e0 : (x == 0)
        case true =>
          go_wp2_with (go_at_call 88; refine (l01In_any _ _ _ _).mono ?_; rintro e w' ⟨rfl, rfl⟩)
          go_ret
          exact ⟨ret_bool (HBAD.out (by unfold el1; rw [HX.out, e0]; simp)).symm, HDD.out⟩
        have HN2 : Hid (allTo (el1 m R) (q + 1) = true) := by show _ = _; unfold allTo el1; rw [HX.out, e0, e1]; have := HQ.out; unfold el1 at this; rw [this]; rfl
        go_wp2_with (go_at_call 88; refine (l01In_any _ _ _ _).mono ?_; rintro e w' ⟨rfl, rfl⟩)
        go_roundw
        case rel => exact ⟨q + 1, by omega, by go_num, HN2, HR.out, HDD.out⟩
        case measure => simp [intOf]; omega
      obtain rfl : q = m := by omega
      go_wp2
      go_loopw [49] (fun i wt => ∃ p : Nat, p ≤ q ∧ i = .int .i64 p ∧ Hid (allTo (el2 R) p = true) ∧ Hid (SlI wt A1 R) ∧ Hid (∃ d, wt = w.drewN d)) (fun i _ => q - (intOf i).toNat)
      case atStart => exact ⟨0, Nat.zero_le _, rfl, rfl, HR.out, HDD.out⟩
      case round =>
        rename_i wu
        obtain ⟨p, hp, rfl, HP2, HR2, HD2⟩ := hrel
        by_cases hlt3 : p < q
        case neg =>
          obtain rfl : p = q := by omega
          have HN : Hid ((P.take (j + 1)).all (roundB (p : Int)) = true) := all_snoc HU.out HP.out (roundB_t2 (by rw [HRL.out]) (by rw [HRL.out]; exact HQ.out) (by rw [HRL.out]; exact HP2.out))
          go_wp2
          go_roundw
          case rel => exact ⟨j + 1, by omega, by go_num, HN, HD2.out⟩
          case measure => simp [intOf]; omega
        have hall := allTo_t.1 HQ.out
        obtain ⟨b2, o2, x, rfl, hx, hcx, -⟩ := HR2.out.at_ (k := p) (by rw [HRL.out]; exact hlt3)
        have HX : Hid (R.getD p 0 = x) := by show _ = _; rw [List.getD_eq_getElem?_getD, hx]; rfl
        have HBAD : Hid (el2 R p = false → planB q P = false) := fun h => planB_hit HU.out (roundB_hit2 (by rw [HRL.out]) (by rw [HRL.out]; exact HQ.out) (by rw [HRL.out]; exact hlt3) h)
        have hx1 := hall p hlt3
        unfold el1 at hx1
        rw [Bool.and_eq_true, HX.out] at hx1
        have hxr := inB_t.1 hx1.1
        have hx0 : x ≠ 0 := by simpa using hx1.2
        have HK0 : ∃ k : Nat, opp x = (k : Int) ∧ k < q := by
          have h5 : 0 ≤ opp x ∧ opp x < q := by rw [opp_eq]; split <;> omega
          exact ⟨(opp x).toNat, by omega, by omega⟩
        obtain ⟨k, hk, hkm⟩ := HK0
        have HK := Lib.hid hk
        obtain ⟨b3, o3, y, e3, hy, hcy, -⟩ := HR2.out.at_ (k := k) (by rw [HRL.out]; exact hkm)
        injection e3 with e3; injection e3 with r1 r2 _; subst r1; subst r2
        have HY : Hid (R.getD k 0 = y) := by show _ = _; rw [List.getD_eq_getElem?_getD, hy]; rfl
        have hy1 := hall k hkm
        unfold el1 at hy1
        rw [Bool.and_eq_true, HY.out] at hy1
        have hyr := inB_t.1 hy1.1
        have HE : Hid (el2 R p = (!((k : Int) == (p : Int)) && (opp y == (p : Int) && !(decide (0 < x) == decide (0 < y))))) := by
          show _ = _
          unfold el2
          rw [HX.out, HK.out, Int.toNat_natCast, HY.out]
        have HO0 : ∃ o : Int, opp y = o := ⟨_, rfl⟩
        obtain ⟨o, ho⟩ := HO0
        have HO := Lib.hid ho
        rw [ho] at HE
        clear hk hy hx ho hx1 hy1 hall
        have HNX : Hid (el2 R p = true → allTo (el2 R) (p + 1) = true) := fun h => by unfold allTo; rw [HP2.out, h]; rfl
        cases e2 : ((k : Int) == (p : Int))
        case true =>
          go_wp2_with (go_at_call 89; refine (l16Other_any x k _ HK.out (by omega) (by omega)).mono ?_; rintro e w' ⟨rfl, rfl⟩)
          go_ret
          exact ⟨ret_bool (HBAD.out (by rw [HE.out, e2]; rfl)).symm, HD2.out⟩
        cases e4 : (o == (p : Int))
        case false =>
          have e4' : (o != (p : Int)) = true := by simp [bne, e4]
          go_wp2_with (first | (go_at_call 89; refine (l16Other_any x k _ HK.out (by omega) (by omega)).mono ?_; rintro e w' ⟨rfl, rfl⟩) | (go_at_call 89; refine (l16Other_any y o _ HO.out (by omega) (by omega)).mono ?_; rintro e w' ⟨rfl, rfl⟩))
          go_ret
          exact ⟨ret_bool (HBAD.out (by rw [HE.out, e2, e4]; rfl)).symm, HD2.out⟩
        have e4' : (o != (p : Int)) = false := by simp [bne, e4]
        cases e7 : (decide (0 < x) == decide (0 < y))
        case true =>
          go_wp2_with (first | (go_at_call 89; refine (l16Other_any x k _ HK.out (by omega) (by omega)).mono ?_; rintro e w' ⟨rfl, rfl⟩) | (go_at_call 89; refine (l16Other_any y o _ HO.out (by omega) (by omega)).mono ?_; rintro e w' ⟨rfl, rfl⟩))
          go_ret
          exact ⟨ret_bool (HBAD.out (by rw [HE.out, e2, e4, e7]; rfl)).symm, HD2.out⟩
        have HN2 := Lib.hid (HNX.out (by rw [HE.out, e2, e4, e7]; rfl))
        go_wp2_with (first | (go_at_call 89; refine (l16Other_any x k _ HK.out (by omega) (by omega)).mono ?_; rintro e w' ⟨rfl, rfl⟩) | (go_at_call 89; refine (l16Other_any y o _ HO.out (by omega) (by omega)).mono ?_; rintro e w' ⟨rfl, rfl⟩))
        all_goals exact ⟨⟨p + 1, by omega, by go_num, HN2, HR2.out, HD2.out⟩, by simp [intOf]; omega⟩
end Go.Proofs.YtofpaekokmkhgaaGreatDoor
