/- Numbers read from a text: plain facts. -/
import Derived.Test.YtbhinnkjadfgcaaDoorSl
import Derived.Lib.ItoaNum
import Derived.Lib.ItoaLen
import Derived.Lib.ItoaMem
import Derived.Lib.AtoiAll
import Derived.Lib.AtoiAllCases
namespace Go.Proofs.YtbhinnkjadfgcaaDoor
open Go.ChangeShapes Go.WideShapes Go.ChangeAt Go.RowKit

theorem dec_big {u : Nat} (h : ¬ u < 10) : Lib.decDigits u = Lib.decDigits (u / 10) ++ [UInt8.ofNat (48 + u % 10)] := by rw [Lib.decDigits, dif_neg h]
theorem dig_nat {d : Nat} (h : d < 10) : (UInt8.ofNat (48 + d)).toNat = 48 + d := by
  rw [UInt8.toNat_ofNat']; omega
theorem dec_ne (u : Nat) : Lib.decDigits u ≠ [] := by
  by_cases h : u < 10
  · rw [Lib.decDigits_one h]; simp
  · rw [dec_big h]; simp
def isDig (c : UInt8) : Bool := decide (48 ≤ c.toNat) && decide (c.toNat ≤ 57)
theorem dec_digs (u : Nat) : (Lib.decDigits u).all isDig = true := by
  induction u using Nat.strongRecOn with
  | ind u ih =>
    by_cases h : u < 10
    · rw [Lib.decDigits_one h]; simp [isDig]; omega
    · rw [dec_big h, List.all_append, ih (u / 10) (by omega)]
      simp only [List.all_cons, List.all_nil, Bool.true_and, Bool.and_true, isDig, dig_nat (show u % 10 < 10 by omega)]
      simp; omega
theorem dec_first (u : Nat) : ∃ c r, Lib.decDigits u = c :: r ∧ 48 ≤ c.toNat ∧ c.toNat ≤ 57 := by
  cases h : Lib.decDigits u with
  | nil => exact absurd h (dec_ne u)
  | cons c r =>
    have := dec_digs u
    rw [h] at this
    simp only [List.all_cons, Bool.and_eq_true, isDig, decide_eq_true_eq] at this
    exact ⟨c, r, rfl, this.1.1, this.1.2⟩
/-- parseUint10 over digits put behind each other. -/
theorem parseUint10_snoc : ∀ (l : List UInt8) (acc v d : Nat), Lib.parseUint10 acc l = .ok v → d < 10 → v < 1844674407370955162 → v * 10 + d < 18446744073709551616 →
    Lib.parseUint10 acc (l ++ [UInt8.ofNat (48 + d)]) = .ok (v * 10 + d)
  | [], acc, v, d, h, hd, h1, h2 => by
    simp only [Lib.parseUint10] at h
    injection h with h; subst h
    simp only [List.nil_append, Lib.parseUint10, dig_nat hd]
    rw [if_pos (by omega), if_neg (by omega), if_neg (by omega)]
    congr 1; omega
  | c :: r, acc, v, d, h, hd, h1, h2 => by
    simp only [Lib.parseUint10, List.cons_append] at h ⊢
    split at h
    · rename_i hc
      rw [if_pos hc]
      split at h
      · cases h
      · rename_i h3
        rw [if_neg h3]
        split at h
        · cases h
        · rename_i h4
          rw [if_neg h4]
          exact parseUint10_snoc r _ v d h hd h1 h2
    · cases h
theorem parse_dec (u : Nat) (h : u < 18446744073709551616) : Lib.parseUint10 0 (Lib.decDigits u) = .ok u := by
  induction u using Nat.strongRecOn with
  | ind u ih =>
    by_cases h1 : u < 10
    · rw [Lib.decDigits_one h1]
      have := parseUint10_snoc [] 0 0 u rfl h1 (by omega) (by omega)
      simpa using this
    · rw [dec_big h1]
      have := parseUint10_snoc _ 0 (u / 10) (u % 10) (ih (u / 10) (by omega) (by omega)) (by omega) (by omega) (by omega)
      rw [this]; congr 1; omega
theorem mag_dec (u : Nat) (h : u < 18446744073709551616) : Lib.parseMag (Lib.decDigits u) = .ok u := by
  unfold Lib.parseMag; rw [if_neg (dec_ne u), parse_dec u h]
/-- What Itoa writes, Atoi reads. -/
theorem atoi_itoa {v : Int} (h0 : -9223372036854775808 ≤ v) (h1 : v ≤ 9223372036854775807) : Lib.atoiAll (Lib.itoa v) = .ok v := by
  by_cases hn : v < 0
  · obtain ⟨u, rfl⟩ : ∃ u : Nat, v = -(u : Int) := ⟨v.natAbs, by omega⟩
    rw [Lib.itoa_neg u (by omega)]
    have hm := mag_dec u (by omega)
    rw [Lib.atoiAll_minus, hm]
    unfold Lib.signed
    simp only
    rw [if_neg (by omega)]
  · obtain ⟨u, rfl⟩ := Int.eq_ofNat_of_zero_le (show 0 ≤ v by omega)
    have hm := mag_dec u (by omega)
    rw [Lib.itoa_nonneg]
    obtain ⟨c, r, e, c1, c2⟩ := dec_first u
    rw [e] at hm ⊢
    rw [Lib.atoiAll_plain c r (by omega) (by omega), hm]
    unfold Lib.signless
    simp only
    rw [if_neg (by omega)]
/-- The number that a text spells in its one canonical way. -/
def numOf (l : List UInt8) : Option Int := match Lib.atoiAll l with
  | .ok v => if Lib.itoa v = l then some v else none
  | _ => none
theorem numOf_some {l : List UInt8} {v : Int} (h : numOf l = some v) : Lib.itoa v = l ∧ -9223372036854775808 ≤ v ∧ v ≤ 9223372036854775807 := by
  unfold numOf at h
  cases ha : Lib.atoiAll l with
  | ok u =>
    rw [ha] at h; simp only at h
    split at h
    · rename_i hi; injection h with h; subst h; exact ⟨hi, Lib.atoiAll_bounds ha⟩
    · cases h
  | «syntax» => rw [ha] at h; cases h
  | range => rw [ha] at h; cases h
theorem numOf_itoa {v : Int} (h0 : -9223372036854775808 ≤ v) (h1 : v ≤ 9223372036854775807) : numOf (Lib.itoa v) = some v := by
  unfold numOf; rw [atoi_itoa h0 h1]; simp
theorem numOf_ok {l : List UInt8} {v : Int} (h : Lib.atoiAll l = .ok v) : numOf l = if Lib.itoa v = l then some v else none := by unfold numOf; rw [h]
theorem numOf_bad {l : List UInt8} (h : ∀ v, Lib.atoiAll l ≠ .ok v) : numOf l = none := by
  unfold numOf
  cases ha : Lib.atoiAll l with
  | ok u => exact absurd ha (h u)
  | «syntax» => rfl
  | range => rfl
/-- The reference's sum: from 0 down. -/
def accS (n : Int) (c : UInt8) : Option Int := if n < (-9223372036854775808 + ((c.toNat : Int) - 48)).tdiv 10 then none else some (n * 10 - ((c.toNat : Int) - 48))
def accF : Int → List UInt8 → Option Int
  | n, [] => some n
  | n, c :: r => (accS n c).bind fun m => accF m r
theorem accF_append : ∀ (xs ys : List UInt8) (n : Int), accF n (xs ++ ys) = (accF n xs).bind fun m => accF m ys
  | [], ys, n => rfl
  | c :: r, ys, n => by
    rw [List.cons_append, accF, accF]
    cases accS n c with
    | none => rfl
    | some m => exact accF_append r ys m
theorem td_min {d : Nat} (h : d < 10) : (-9223372036854775808 + (d : Int)).tdiv 10 = -(((9223372036854775808 - d) / 10 : Nat) : Int) := by
  rw [show (-9223372036854775808 + (d : Int)) = -((9223372036854775808 - d : Nat) : Int) by omega, Int.neg_tdiv, Int.tdiv_eq_ediv_of_nonneg (by omega)]; rfl
theorem accS_ok {u d : Nat} (hd : d < 10) (h : u * 10 + d ≤ 9223372036854775808) : accS (-(u : Int)) (UInt8.ofNat (48 + d)) = some (-((u * 10 + d : Nat) : Int)) := by
  unfold accS
  rw [dig_nat hd, show (((48 + d : Nat) : Int) - 48) = (d : Int) by omega, td_min hd, if_neg (by omega)]
  congr 1; omega
theorem accS_range {n m : Int} {c : UInt8} (hc : isDig c = true) (h0 : -9223372036854775808 ≤ n) (h1 : n ≤ 0) (h : accS n c = some m) : -9223372036854775808 ≤ m ∧ m ≤ 0 := by
  simp only [isDig, Bool.and_eq_true, decide_eq_true_eq] at hc
  unfold accS at h
  have e := td_min (d := c.toNat - 48) (by omega)
  rw [show ((c.toNat - 48 : Nat) : Int) = (c.toNat : Int) - 48 by omega] at e
  rw [e] at h
  split at h
  · cases h
  · injection h with h; subst h; omega
theorem acc_dec (u : Nat) (h : u ≤ 9223372036854775808) : accF 0 (Lib.decDigits u) = some (-(u : Int)) := by
  induction u using Nat.strongRecOn with
  | ind u ih =>
    by_cases h1 : u < 10
    · rw [Lib.decDigits_one h1, accF]
      have := accS_ok (u := 0) (d := u) h1 (by omega)
      rw [show (-((0 : Nat) : Int)) = 0 from rfl] at this
      rw [this]; simp [accF]
    · rw [dec_big h1, accF_append, ih (u / 10) (by omega) (by omega)]
      have := accS_ok (u := u / 10) (d := u % 10) (by omega) (by omega)
      show accF (-((u / 10 : Nat) : Int)) [UInt8.ofNat (48 + u % 10)] = _
      rw [accF, this]
      show some _ = _
      congr 2; omega
theorem dec_len19 {u : Nat} (h : u ≤ 9223372036854775808) : (Lib.decDigits u).length ≤ 19 := by
  have hk : ∀ k u : Nat, u < 10 ^ (k + 1) → (Lib.decDigits u).length ≤ k + 1 := by
    intro k
    induction k with
    | zero => intro u hu; rw [Lib.decDigits_one (by omega)]; simp
    | succ k ih =>
      intro u hu
      by_cases h1 : u < 10
      · rw [Lib.decDigits_one h1]; simp
      · rw [dec_big h1, List.length_append, List.length_singleton]
        have := ih (u / 10) (by rw [Nat.pow_succ] at hu; omega)
        omega
  exact hk 18 u (by omega)
/-- What the reference makes of a text. -/
def tailOf (l : List UInt8) : List UInt8 := if l.head? = some 45 then l.tail else l
def specNum (l : List UInt8) : Option Int :=
  if tailOf l ≠ [] ∧ (tailOf l).all isDig = true ∧ (tailOf l).length ≤ 19 then
    match accF 0 (tailOf l) with
    | none => none
    | some n =>
      if l.head? = some 45 then (if Lib.itoa n = l then some n else none)
      else if n = -9223372036854775808 then none else (if Lib.itoa (-n) = l then some (-n) else none)
  else none
theorem accF_range : ∀ (l : List UInt8) (n m : Int), l.all isDig = true → -9223372036854775808 ≤ n → n ≤ 0 → accF n l = some m → -9223372036854775808 ≤ m ∧ m ≤ 0
  | [], n, m, _, h0, h1, h => by injection h with h; subst h; exact ⟨h0, h1⟩
  | c :: r, n, m, hd, h0, h1, h => by
    simp only [List.all_cons, Bool.and_eq_true] at hd
    rw [accF] at h
    cases hs : accS n c with
    | none => rw [hs] at h; cases h
    | some k =>
      rw [hs] at h
      obtain ⟨r0, r1⟩ := accS_range hd.1 h0 h1 hs
      exact accF_range r k m hd.2 r0 r1 h
theorem head_dec (u : Nat) : (Lib.decDigits u).head? ≠ some 45 := by
  obtain ⟨c, r, e, c1, c2⟩ := dec_first u
  rw [e]; simp only [List.head?_cons, ne_eq, Option.some.injEq]
  rintro rfl
  have : (45 : UInt8).toNat = 45 := rfl
  omega
theorem specNum_eq (l : List UInt8) : specNum l = numOf l := by
  cases hn : numOf l with
  | some v =>
    obtain ⟨rfl, h0, h1⟩ := numOf_some hn
    by_cases hv : v < 0
    · obtain ⟨u, rfl⟩ : ∃ u : Nat, v = -(u : Int) := ⟨v.natAbs, by omega⟩
      have ht : tailOf (Lib.itoa (-(u : Int))) = Lib.decDigits u := by rw [Lib.itoa_neg u (by omega)]; rfl
      unfold specNum
      rw [ht, if_pos ⟨dec_ne u, dec_digs u, dec_len19 (by omega)⟩, acc_dec u (by omega)]
      simp only
      rw [if_pos (by rw [Lib.itoa_neg u (by omega)]; rfl)]
      simp
    · obtain ⟨u, rfl⟩ := Int.eq_ofNat_of_zero_le (show 0 ≤ v by omega)
      have ht : tailOf (Lib.itoa (u : Int)) = Lib.decDigits u := by rw [Lib.itoa_nonneg]; unfold tailOf; rw [if_neg (head_dec u)]
      unfold specNum
      rw [ht, if_pos ⟨dec_ne u, dec_digs u, dec_len19 (by omega)⟩, acc_dec u (by omega)]
      simp only
      rw [if_neg (by rw [Lib.itoa_nonneg]; exact head_dec u), if_neg (by omega), Int.neg_neg]
      simp
  | none =>
    cases hs : specNum l with
    | none => rfl
    | some v =>
      exfalso
      have key : Lib.itoa v = l ∧ -9223372036854775808 ≤ v ∧ v ≤ 9223372036854775807 := by
        unfold specNum at hs
        split at hs
        · rename_i hc
          cases ha : accF 0 (tailOf l) with
          | none => rw [ha] at hs; cases hs
          | some n =>
            rw [ha] at hs
            have hr := accF_range _ 0 n hc.2.1 (by omega) (by omega) ha
            simp only at hs
            split at hs
            · split at hs
              · rename_i hi; injection hs with hs; subst hs; exact ⟨hi, by omega, by omega⟩
              · cases hs
            · split at hs
              · cases hs
              · split at hs
                · rename_i hm hi; injection hs with hs; subst hs; exact ⟨hi, by omega, by omega⟩
                · cases hs
        · cases hs
      obtain ⟨rfl, h0, h1⟩ := key
      rw [numOf_itoa h0 h1] at hn; cases hn
/-- A text cut at a byte. -/
def cutB (s : UInt8) : List UInt8 → List (List UInt8)
  | [] => [[]]
  | c :: r => if c = s then [] :: cutB s r else match cutB s r with
    | [] => [[c]]
    | h :: t => (c :: h) :: t
theorem cutB_ne (s : UInt8) : ∀ l, cutB s l ≠ []
  | [] => by simp [cutB]
  | c :: r => by
    rw [cutB]; split
    · simp
    · split <;> simp
theorem cutB_none {s : UInt8} : ∀ {l : List UInt8}, s ∉ l → cutB s l = [l]
  | [], _ => rfl
  | c :: r, h => by
    rw [List.mem_cons, not_or] at h
    rw [cutB, if_neg (fun e => h.1 e.symm), cutB_none h.2]
theorem cutB_at {s : UInt8} : ∀ {l : List UInt8} {k : Nat}, s ∉ l.take k → l[k]? = some s → cutB s l = l.take k :: cutB s (l.drop (k + 1))
  | [], k, _, h => by simp at h
  | c :: r, 0, _, h => by
    simp only [List.getElem?_cons_zero, Option.some.injEq] at h
    rw [cutB, if_pos h]; rfl
  | c :: r, k + 1, h, hk => by
    rw [List.take_succ_cons, List.mem_cons, not_or] at h
    rw [List.getElem?_cons_succ] at hk
    rw [cutB, if_neg (fun e => h.1 e.symm), cutB_at h.2 hk]
    rfl
theorem cutB_length (s : UInt8) : ∀ l, (cutB s l).length ≤ l.length + 1
  | [] => by simp [cutB]
  | c :: r => by
    have ih := cutB_length s r
    rw [cutB]; split
    · simp only [List.length_cons]; omega
    · split
      · simp
      · rename_i h t e; rw [e] at ih; simp only [List.length_cons] at ih ⊢; omega
/-- No word is longer than the text. -/
theorem cutB_word (s : UInt8) : ∀ (l : List UInt8), ∀ x ∈ cutB s l, x.length ≤ l.length
  | [] => by simp [cutB]
  | c :: r => by
    have ih := cutB_word s r
    intro x hx
    rw [cutB] at hx
    split at hx
    · rcases List.mem_cons.1 hx with rfl | h
      · simp
      · have := ih x h; simp only [List.length_cons]; omega
    · split at hx
      · simp at hx; subst hx; simp
      · rename_i h t e
        rcases List.mem_cons.1 hx with rfl | h2
        · have := ih h (by rw [e]; exact List.mem_cons_self ..)
          simp only [List.length_cons]; omega
        · have := ih x (by rw [e]; exact List.mem_cons_of_mem _ h2)
          simp only [List.length_cons]; omega
def cutC (l : List UInt8) : List (List UInt8) := cutB 44 l
/-- The numbers of a list of words; at most forty. -/
def pnU : List Int → List (List UInt8) → Option (List Int)
  | out, [] => some out
  | out, w :: ws => match numOf w with
    | none => none
    | some n => if out.length = 40 then none else pnU (out ++ [n]) ws
def pnO (l : List UInt8) : Option (List Int) := if l = [45] then some [] else pnU [] (cutC l)
def pnF (l : List UInt8) : List Int := (pnO l).getD []
def pnB (l : List UInt8) : Bool := (pnO l).isSome
theorem pnU_len : ∀ {ws : List (List UInt8)} {out r : List Int}, pnU out ws = some r → out.length ≤ 40 → r.length ≤ 40
  | [], out, r, h, h1 => by injection h with h; subst h; exact h1
  | w :: ws, out, r, h, h1 => by
    rw [pnU] at h
    split at h
    · cases h
    · split at h
      · cases h
      · exact pnU_len h (by rw [List.length_append, List.length_singleton]; omega)
theorem pnF_len (l : List UInt8) : (pnF l).length ≤ 1048576 := by
  unfold pnF pnO
  split
  · simp
  · cases h : pnU [] (cutC l) with
    | none => simp
    | some r => have := pnU_len h (by simp); simp only [Option.getD_some]; omega
end Go.Proofs.YtbhinnkjadfgcaaDoor
