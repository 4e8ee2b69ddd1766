/- Valid plans of rounds: the plain law. -/
import Derived.Test.YtnlhelhpalimnaaDoorStd
import Derived.Test.YtnlhelhpalimnaaDoorNum
namespace Go.Proofs.YtnlhelhpalimnaaDoor
open Go.ChangeShapes Go.WideShapes Go.ChangeAt Go.RowKit

def allTo (p : Nat → Bool) : Nat → Bool
  | 0 => true
  | j + 1 => allTo p j && p j
theorem allTo_hit {p : Nat → Bool} {k n : Nat} (hk : k < n) (hp : p k = false) : allTo p n = false := by
  induction n with
  | zero => omega
  | succ n ih =>
    unfold allTo
    by_cases h : k = n
    · subst h; rw [hp]; simp
    · rw [ih (by omega)]; rfl
theorem allTo_t {p : Nat → Bool} {n : Nat} : allTo p n = true ↔ ∀ k, k < n → p k = true := by
  induction n with
  | zero => simp [allTo]
  | succ n ih =>
    unfold allTo
    rw [Bool.and_eq_true, ih]
    constructor
    · rintro ⟨h1, h2⟩ k hk
      by_cases h : k = n
      · subst h; exact h2
      · exact h1 k (by omega)
    · intro h
      exact ⟨fun k hk => h k (by omega), h n (by omega)⟩
theorem allTo_congr {p q : Nat → Bool} {n : Nat} (h : ∀ k, k < n → p k = q k) : allTo p n = allTo q n := by
  induction n with
  | zero => rfl
  | succ n ih => unfold allTo; rw [ih (fun k hk => h k (by omega)), h n (by omega)]
def opp (x : Int) : Int := max x (-x) - 1
def sgn (x : Int) : Int := if 0 < x then 1 else -1
def elB (n : Int) (R : List Int) (k : Nat) : Bool :=
  !(R.getD k 0 == 0) && (inB (R.getD k 0) (-n) n && (!(opp (R.getD k 0) == (k : Int)) && (R.getD (opp (R.getD k 0)).toNat 0 == ((k : Int) + 1) * sgn (-(R.getD k 0)))))
def el1 (n : Int) (R : List Int) (k : Nat) : Bool := inB (R.getD k 0) (-n) n && !(R.getD k 0 == 0)
def el2 (R : List Int) (k : Nat) : Bool :=
  !(opp (R.getD k 0) == (k : Int)) && (opp (R.getD (opp (R.getD k 0)).toNat 0) == (k : Int) && !(decide (0 < R.getD k 0) == decide (0 < R.getD (opp (R.getD k 0)).toNat 0)))
def roundB (n : Int) (R : List Int) : Bool := decide ((R.length : Int) = n) && allTo (elB n R) R.length
theorem opp_eq (x : Int) : opp x = if 0 < x then x - 1 else -x - 1 := by unfold opp; split <;> omega
theorem elB_of {n : Int} {R : List Int} (hl : (R.length : Int) = n) (h1 : allTo (el1 n R) R.length = true) {k : Nat} (hk : k < R.length) : elB n R k = el2 R k := by
  have hall := allTo_t.1 h1
  have hk1 := hall k hk
  unfold el1 at hk1
  rw [Bool.and_eq_true] at hk1
  obtain ⟨a1, a2⟩ := hk1
  unfold elB el2
  rw [a2, a1, Bool.true_and, Bool.true_and]
  have a3 := inB_t.1 a1
  have a4 : R.getD k 0 ≠ 0 := by simpa using a2
  have ho : 0 ≤ opp (R.getD k 0) ∧ opp (R.getD k 0) < R.length := by rw [opp_eq]; split <;> omega
  have hj := hall (opp (R.getD k 0)).toNat (by omega)
  unfold el1 at hj
  rw [Bool.and_eq_true] at hj
  obtain ⟨b1, b2⟩ := hj
  have b4 : R.getD (opp (R.getD k 0)).toNat 0 ≠ 0 := by simpa using b2
  generalize R.getD (opp (R.getD k 0)).toNat 0 = y at *
  generalize R.getD k 0 = x at *
  congr 1
  rw [Bool.eq_iff_iff]
  simp only [beq_iff_eq, Bool.and_eq_true, Bool.not_eq_true', beq_eq_false_iff_ne, ne_eq, decide_eq_decide]
  rw [opp_eq y]
  unfold sgn
  split <;> split <;> constructor <;> intro h <;> first | omega | (refine ⟨by omega, ?_⟩; omega)
theorem roundB_len {n : Int} {R : List Int} (h : ¬ (R.length : Int) = n) : roundB n R = false := by simp [roundB, h]
theorem roundB_hit {n : Int} {R : List Int} {k : Nat} (hk : k < R.length) (h : elB n R k = false) : roundB n R = false := by
  unfold roundB; rw [allTo_hit hk h, Bool.and_false]
theorem roundB_t {n : Int} {R : List Int} (hl : (R.length : Int) = n) (h : allTo (elB n R) R.length = true) : roundB n R = true := by
  unfold roundB; rw [h, decide_eq_true hl]; rfl
theorem roundB_hit1 {n : Int} {R : List Int} {k : Nat} (hk : k < R.length) (h : el1 n R k = false) : roundB n R = false := by
  refine roundB_hit hk ?_
  unfold el1 at h
  unfold elB
  rw [Bool.and_eq_false_iff] at h
  rcases h with h | h
  · rw [h]; simp
  · rw [h]; simp
theorem roundB_hit2 {n : Int} {R : List Int} {k : Nat} (hl : (R.length : Int) = n) (h1 : allTo (el1 n R) R.length = true) (hk : k < R.length) (h : el2 R k = false) : roundB n R = false :=
  roundB_hit hk (by rw [elB_of hl h1 hk]; exact h)
theorem roundB_t2 {n : Int} {R : List Int} (hl : (R.length : Int) = n) (h1 : allTo (el1 n R) R.length = true) (h2 : allTo (el2 R) R.length = true) : roundB n R = true :=
  roundB_t hl (by rw [allTo_congr (fun k hk => elB_of hl h1 hk)]; exact h2)
def clubsB (n : Int) : Bool := inB n 2 10 && n % 2 == 0
def planB (n : Int) (P : List (List Int)) : Bool := clubsB n && (decide (P.length ≤ 36) && P.all (roundB n))
theorem planB_n {n : Int} {P : List (List Int)} (h : clubsB n = false) : planB n P = false := by simp [planB, h]
theorem planB_len {n : Int} {P : List (List Int)} (h : ¬ P.length ≤ 36) : planB n P = false := by simp [planB, h]
theorem planB_hit {n : Int} {P : List (List Int)} {R : List Int} {k : Nat} (hk : P[k]? = some R) (h : roundB n R = false) : planB n P = false := by
  unfold planB
  rw [show P.all (roundB n) = false from List.all_eq_false.2 ⟨R, List.mem_of_getElem? hk, by simp [h]⟩]
  simp
theorem planB_t {n : Int} {P : List (List Int)} (h1 : clubsB n = true) (h2 : P.length ≤ 36) (h3 : (P.take P.length).all (roundB n) = true) : planB n P = true := by
  rw [List.take_length] at h3
  simp [planB, h1, h2, h3]
theorem all_snoc {P : List (List Int)} {p : List Int → Bool} {R : List Int} {k : Nat} (hk : P[k]? = some R) (h : (P.take k).all p = true) (hr : p R = true) : (P.take (k + 1)).all p = true := by
  rw [take_snoc hk, List.all_append, h]; simp [hr]

theorem isClubs_any (n : Int) (w : World) :
    Calls Tryd.prog 25 #[.int .i64 n] w fun e w' => e = .returned (.bool (clubsB n)) ∧ w = w' := by
  cases h : inB n 2 10
  case false =>
    go_enter Tryd.func25, Tryd.ntmps25
    go_wp2_with (go_at_call 26; refine (within_any _ _ _ _).mono ?_; rintro e w' ⟨rfl, rfl⟩)
    go_ret
    exact ⟨by simp [clubsB, h], rfl⟩
  have hb := inB_t.1 h
  have hm : Int.tmod n 2 = n % 2 := Int.tmod_eq_emod_of_nonneg (by omega)
  go_enter Tryd.func25, Tryd.ntmps25
  go_wp2_with (go_at_call 26; refine (within_any _ _ _ _).mono ?_; rintro e w' ⟨rfl, rfl⟩)
  go_ret
  exact ⟨by simp [clubsB, h], rfl⟩

theorem l16Size_any (n : Int) (w : World) :
    Calls Tryd.prog 20 #[.int .i64 n] w fun e w' => e = .returned (.bool (clubsB n)) ∧ w = w' := by
  cases h : inB n 2 10
  case false =>
    go_enter Tryd.func20, Tryd.ntmps20
    go_wp2_with (go_at_call 21; refine (l01In_any _ _ _ _).mono ?_; rintro e w' ⟨rfl, rfl⟩)
    go_ret
    exact ⟨by simp [clubsB, h], rfl⟩
  have hb := inB_t.1 h
  have hm : Int.tmod n 2 = n % 2 := Int.tmod_eq_emod_of_nonneg (by omega)
  go_enter Tryd.func20, Tryd.ntmps20
  go_wp2_with (go_at_call 21; refine (l01In_any _ _ _ _).mono ?_; rintro e w' ⟨rfl, rfl⟩)
  go_ret
  exact ⟨by simp [clubsB, h], rfl⟩

theorem sign_any (v s : Int) (w : World) (hs : sgn v = s) :
    Calls Tryd.prog 28 #[.int .i64 v] w fun e w' => e = .returned (.int .i64 s) ∧ w = w' := by
  subst hs
  by_cases h : 0 < v
  all_goals
    go_enter Tryd.func28, Tryd.ntmps28
    go_wp2
    go_ret
    exact ⟨by simp [sgn, h], rfl⟩

theorem l16Other_any (x o : Int) (w : World) (ho : opp x = o) (h0 : -1000 ≤ x) (h1 : x ≤ 1000) :
    Calls Tryd.prog 22 #[.int .i64 x] w fun e w' => e = .returned (.int .i64 o) ∧ w = w' := by
  subst ho
  by_cases h : 0 < x
  all_goals
    go_enter Tryd.func22, Tryd.ntmps22
    go_wp2
    all_goals
      go_ret
      exact ⟨ret_int (by rw [opp_eq]; split <;> omega), rfl⟩

theorem opponent_any (A : Option Addr) (c n : Nat) (R : List Int) (k : Nat) (x o : Int) (w : World) (hs : SlI w A R) (hl : R.length = n) (hk : k < n) (hx : R.getD k 0 = x) (ho : opp x = o) (h0 : -1000 ≤ x) (h1 : x ≤ 1000) :
    Calls Tryd.prog 27 #[.slice A n c, .int .i64 k] w fun e w' => e = .returned (.int .i64 o) ∧ ∃ m, w' = w.drewN m := by
  obtain ⟨b, off, x', rfl, hx', hc, -⟩ := hs.at_ (k := k) (by omega)
  obtain rfl : x' = x := by rw [← hx, List.getD_eq_getElem?_getD, hx']; rfl
  clear hx hx' hs
  rw [opp_eq] at ho
  rcases Int.lt_trichotomy x' 0 with h | rfl | h
  · rw [if_neg (by omega)] at ho
    have HO := Lib.hid ho
    clear ho
    go_enter Tryd.func27, Tryd.ntmps27
    go_wp2
    go_quiet (fail)
    go_wp2
    go_ret
    exact ⟨ret_int HO.out, _, rfl⟩
  · have HO := Lib.hid ho
    clear ho
    go_enter Tryd.func27, Tryd.ntmps27
    go_wp2
    go_quiet (fail)
    go_wp2
    go_ret
    exact ⟨ret_int HO.out, _, rfl⟩
  · rw [if_pos h] at ho
    have HO := Lib.hid ho
    clear ho
    go_enter Tryd.func27, Tryd.ntmps27
    go_wp2
    go_quiet (fail)
    go_wp2
    go_ret
    exact ⟨ret_int HO.out, _, rfl⟩

theorem dd {w wt : World} (h : ∃ d, wt = w.drewN d) (n : Nat) : ∃ d, wt.drewN n = w.drewN d := by
  obtain ⟨d, rfl⟩ := h
  exact ⟨_, World.drewN_drewN _ _ _⟩
theorem wrapS (q : Nat) (s : Int) (x : Int) (hs : sgn x = s) (hq : q ≤ 1000) : IntKind.i64.wrap (((q : Int) + 1) * s) = ((q : Int) + 1) * s := by
  subst hs
  unfold sgn
  split
  · rw [IntKind.wrap_i64]; omega
  · rw [IntKind.wrap_i64]; omega
end Go.Proofs.YtnlhelhpalimnaaDoor
