/- Players by their scores; strong parts: the sort. -/
import Derived.Test.YtoppjohbmalhnaaDoorTri
import Derived.Test.YtoppjohbmalhnaaDoorSo
import Derived.Test.YtoppjohbmalhnaaDoorIx
import Derived.Test.YtoppjohbmalhnaaDoorRev
namespace Go.Proofs.YtoppjohbmalhnaaDoor
open Go.ChangeShapes Go.WideShapes Go.ChangeAt Go.RowKit

theorem posR_lo {key : Int → Int} {l : List Int} {x : Int} : ∀ k, k ≤ l.length → ∀ i, i < posR key l x k → posR key l x k = i + 1 → ¬ key (l.getD i 0) < key x := by
  intro k
  induction k with
  | zero => intro _ i h; simp [posR] at h
  | succ k ih =>
    intro hk i hi e
    rw [posR] at hi e
    split at e
    · next h => rw [if_pos h] at hi; exact ih (by omega) i hi e
    · next h =>
      obtain rfl : k = i := by omega
      exact h
theorem posR_hi {key : Int → Int} {l : List Int} {x : Int} : ∀ k, k ≤ l.length → ∀ i, posR key l x k ≤ i → i < k → key (l.getD i 0) < key x := by
  intro k
  induction k with
  | zero => intro _ i _ h; omega
  | succ k ih =>
    intro hk i h1 h2
    rw [posR] at h1
    split at h1
    · next h =>
      rcases Nat.eq_or_lt_of_le (Nat.le_of_lt_succ h2) with rfl | h3
      · exact h
      · exact ih (by omega) i h1 h3
    · omega
def Desc (key : Int → Int) (l : List Int) : Prop := ∀ i j, i < j → j < l.length → key (l.getD j 0) ≤ key (l.getD i 0)
theorem insR_desc {key : Int → Int} {l : List Int} {x : Int} (h : Desc key l) : Desc key (insR key l x) := by
  have hp := posR_le key l x l.length
  have hlo := posR_lo (key := key) (l := l) (x := x) l.length (Nat.le_refl _)
  have hhi := posR_hi (key := key) (l := l) (x := x) l.length (Nat.le_refl _)
  have hlen := insR_length key l x
  unfold insR at hlen ⊢
  generalize hP : posR key l x l.length = p at *
  have hget : ∀ i, (l.take p ++ x :: l.drop p).getD i 0 = if i < p then l.getD i 0 else if i = p then x else l.getD (i - 1) 0 := by
    intro i
    rw [List.getD_eq_getElem?_getD]
    split
    · next h1 => rw [List.getElem?_append_left (by simp; omega), List.getElem?_take, if_pos h1, ← List.getD_eq_getElem?_getD]
    · next h1 =>
      rw [List.getElem?_append_right (by simp; omega)]
      have hm : (l.take p).length = p := by simp; omega
      rw [hm]
      split
      · next h2 => subst h2; simp
      · next h2 =>
        rw [show i - p = (i - 1 - p) + 1 by omega, List.getElem?_cons_succ, List.getElem?_drop, show p + (i - 1 - p) = i - 1 by omega, ← List.getD_eq_getElem?_getD]
  intro i j hij hj
  rw [hlen] at hj
  rw [hget i, hget j]
  by_cases hi : i < p
  · rw [if_pos hi]
    by_cases hj1 : j < p
    · rw [if_pos hj1]; exact h i j hij (by omega)
    · rw [if_neg hj1]
      by_cases hj2 : j = p
      · rw [if_pos hj2]
        have h1 := hlo (p - 1) (by omega) (by omega)
        rcases Nat.eq_or_lt_of_le (show i ≤ p - 1 by omega) with e | e
        · subst e; omega
        · have := h i (p - 1) e (by omega); omega
      · rw [if_neg hj2]; exact h i (j - 1) (by omega) (by omega)
  · rw [if_neg hi, if_neg (show ¬ j < p by omega), if_neg (show ¬ j = p by omega)]
    by_cases hi2 : i = p
    · rw [if_pos hi2]
      have := hhi (j - 1) (by omega) (by omega); omega
    · rw [if_neg hi2]; exact h (i - 1) (j - 1) (by omega) (by omega)
theorem insF_desc (key : Int → Int) : ∀ xs, Desc key (insF key xs) := by
  have h : ∀ (xs l : List Int), Desc key l → Desc key (xs.foldl (insR key) l) := by
    intro xs
    induction xs with
    | nil => intro l hl; exact hl
    | cons x xs ih => intro l hl; exact ih _ (insR_desc hl)
  intro xs
  exact h xs [] (fun i j _ hj => by simp at hj)

set_option maxHeartbeats 2000000 in
set_option maxRecDepth 100000 in
theorem byScore1_any (x : TourV) (hok : tourB x = true) (A : Option Addr) (c bq : Nat) (a b : Nat) (W : World) (ha : a < x.wins.length) (hb : b < x.wins.length)
    (hi : InT W (.agg #[.int .i64 x.size, .slice A x.wins.length c]) x) (hq : Bx W bq (.int .i64 x.size) (.slice A x.wins.length c)) :
    Calls Tryd.prog 62 #[.int .i64 (a : Int), .int .i64 (b : Int), .pointer (some ⟨bq, 0, none⟩)] W fun e W' => ∃ c : Int, e = .returned (.int .i64 c) ∧ (c < 0 ↔ scoreF x (b : Int) < scoreF x (a : Int)) ∧ Below W.heap.size W W' := by
  have HI := Lib.hid hi
  have HQ := Lib.hid hq
  obtain ⟨q0, q1, q2⟩ := hq
  have HS : Hid (∀ V (d : Nat), Below W.heap.size W V → d < x.wins.length → Calls Tryd.prog 63 #[.agg #[.int .i64 x.size, .slice A x.wins.length c], .int .i64 (d : Int)] V fun e w' => e = .returned (.int .i64 (scN x d : Nat)) ∧ Below V.heap.size V w') := fun V d hV hd => implScore_any _ x d V (HI.out.below hV) hok hd
  have HE : Hid (((scN x b : Nat) : Int) - (scN x a : Nat) < 0 ↔ scoreF x (b : Int) < scoreF x (a : Int)) := by
    show _ ↔ _
    rw [scoreF, scoreF, Int.toNat_natCast, Int.toNat_natCast]
    show ((scN x b : Nat) : Int) - (scN x a : Nat) < 0 ↔ ((scN x b : Nat) : Int) < ((scN x a : Nat) : Int)
    omega
  have hsa := scN_le x a
  have hsb := scN_le x b
  have HSA := Lib.hid (fun V hV => HS.out V a hV ha)
  have HSB := Lib.hid (fun V hV => HS.out V b hV hb)
  have eW : IntKind.i64.wrap (((scN x b : Nat) : Int) - (scN x a : Nat)) = ((scN x b : Nat) : Int) - (scN x a : Nat) := by rw [IntKind.wrap_i64]; omega
  generalize scN x a = SA at *
  generalize scN x b = SB at *
  have HB0 : Hid (Below W.heap.size W W.drew) := below_drewL (Below.refl _ _)
  clear hi HS
  go_enter Tryd.func62, Tryd.ntmps62
  go_wp2_with fail
  go_region_held3 (fun V => V.cell? ⟨bq, 0, none⟩ = some (.int .i64 x.size) ∧ V.cell? ⟨bq, 1, none⟩ = some (.slice A x.wins.length c)) (first | exact ⟨q0, q1⟩ | exact ⟨(HQ.out.below B2.out).1, (HQ.out.below B2.out).2.1⟩ | exact ⟨(HQ.out.below B1.out).1, (HQ.out.below B1.out).2.1⟩) (first
    | (go_at_call 63; (with_reducible refine (HSB.out _ HB0.out).mono ?_); rintro e w1 ⟨rfl, hb⟩; have B1 : Hid (Below W.heap.size W w1) := HB0.out.trans (hb.mono HB0.out.size); clear hb)
    | (have h_ := B1.out; clear h_; go_at_call 63; (with_reducible refine (HSA.out _ B1.out).mono ?_); rintro e w2 ⟨rfl, hb⟩; have B2 : Hid (Below W.heap.size W w2) := B1.out.trans (hb.mono B1.out.size); clear hb))
  go_wp2
  go_ret
  exact ⟨_, rfl, HE.out, B2.out⟩

/-- The players by their scores, the greatest first. -/
def byL (x : TourV) : List Int := insF (scoreF x) (idxs x.wins.length)
theorem byL_len (x : TourV) : (byL x).length = x.wins.length := by rw [byL, insF_length, idxs_length]
theorem byL_mem {x : TourV} {y : Int} : y ∈ byL x ↔ 0 ≤ y ∧ y < x.wins.length := by rw [byL, (insF_perm _ _).mem_iff, idxs_mem]
theorem Fr.someC {w : World} {lo hi : Nat} {v : Value} {xs : List Int} (h : Fr w lo hi v xs) (hl : 0 < xs.length) : ∃ g c, v = .slice (some ⟨g, 0, none⟩) xs.length c ∧ lo ≤ g ∧ g < hi := by
  obtain ⟨A, c, rfl, _, _⟩ := h.form
  obtain ⟨g, y, rfl, h1, h2, _⟩ := h.at_ hl
  exact ⟨g, c, rfl, h1, h2⟩
set_option maxHeartbeats 4000000 in
set_option maxRecDepth 100000 in
theorem byScore_any (v : Value) (x : TourV) (w : World) (hs : InT w v x) (hok : tourB x = true) :
    Calls Tryd.prog 54 #[v] w fun e w' => ∃ v', e = .returned v' ∧ Fr w' w.heap.size w'.heap.size v' (byL x) ∧ Below w.heap.size w w' := by
  have HIT := Lib.hid hs
  have HOK := Lib.hid hok
  obtain ⟨u, rfl, A, c, rfl, hc, hm, hsl⟩ := hs
  obtain ⟨t1, t2, t3, _, _⟩ := tourB_t hok
  have hn8 : x.wins.length ≤ 8 := by omega
  have HSZ : Hid (x.size = (x.wins.length : Int)) := t3.symm
  have HBX : Hid (Bx (w.alloc (.cells #[.int .i64 x.size, .slice A x.wins.length c] 27)) w.heap.size (.int .i64 x.size) (.slice A x.wins.length c) ∧ Below w.heap.size w (w.alloc (.cells #[.int .i64 x.size, .slice A x.wins.length c] 27)) ∧ (w.alloc (.cells #[.int .i64 x.size, .slice A x.wins.length c] 27)).heap.size = w.heap.size + 1) := ⟨⟨by simp, by simp, by simp⟩, (Below.refl _ w).alloc (Nat.le_refl _) _, World.size_alloc _ _⟩
  clear hsl
  have hn1 : 1 ≤ x.wins.length := by omega
  have HBX2 := HBX.out
  rw [HSZ.out] at HBX2
  rw [HSZ.out]
  obtain ⟨⟨q0, q1, q2⟩, -, -⟩ := id HBX2
  have HBX2 := Lib.hid HBX2
  clear t1 t2 t3
  go_enter Tryd.func54, Tryd.ntmps54
  go_wp2_with fail
  generalize hW1 : (w.alloc (.cells #[.int .i64 (x.wins.length : Int), .slice A x.wins.length c] 27)) = w1 at *
  refine (indices_any x.wins.length w1 (by omega)).mono ?_
  rintro e w4 ⟨v4, rfl, hf, hb⟩
  obtain ⟨gi, ci, rfl, hi1, hi2⟩ := hf.someC (by rw [idxs_length]; omega)
  rw [idxs_length] at hf
  have HF4 := Lib.hid (And.intro hf hb)
  have hsz4 := hb.size
  have hz1 := HBX2.out.2.2
  clear hf hb q0 q1 q2 hW1
  have HC : Hid (CmpBy w4 w1.heap.size w4.heap.size 62 #[.pointer (some ⟨w.heap.size, 0, none⟩)] (idxs x.wins.length) (scoreF x)) := by
    show CmpBy _ _ _ _ _ _ _
    intro W a b hk ha hb
    obtain ⟨a1, a2⟩ := idxs_mem.1 ha
    obtain ⟨b1, b2⟩ := idxs_mem.1 hb
    obtain ⟨a, rfl⟩ := Int.eq_ofNat_of_zero_le a1
    obtain ⟨b, rfl⟩ := Int.eq_ofNat_of_zero_le b1
    have B1 : Below w1.heap.size w1 W := HF4.out.2.trans (hk.below (Nat.le_refl _) hsz4)
    have B0 : Below w.heap.size w W := HBX2.out.2.1.trans (B1.mono (by omega))
    have hq : Bx W w.heap.size (.int .i64 x.size) (.slice A x.wins.length c) := by rw [HSZ.out]; exact HBX2.out.1.below B1
    exact byScore1_any x HOK.out A c w.heap.size a b W (by omega) (by omega) (HIT.out.below B0) hq
  have HSS := sortStable_any w4 w1.heap.size w4.heap.size gi ci (idxs x.wins.length) (scoreF x) 62 #[.pointer (some ⟨w.heap.size, 0, none⟩)] (by rw [idxs_length]; exact HF4.out.1) (by rw [idxs_length]; omega) (by rw [idxs_length]; omega) (fun _ _ => by kernel_rfl) HC.out
  rw [idxs_length] at HSS
  have HSH := Lib.hid HSS
  rw [idxs_length]
  clear HSS
  go_wp2_with fail
  refine HSH.out.mono ?_
  rintro e w5 ⟨rfl, hf5, kp5⟩
  have H5 : Hid (Fr w5 w1.heap.size w4.heap.size (.slice (some ⟨gi, 0, none⟩) x.wins.length ci) (byL x) ∧ Keep w1.heap.size w4.heap.size w4 w5) := ⟨hf5, kp5⟩
  clear hf5 kp5
  go_wp2
  go_ret
  have hs3 : w.heap.size ≤ w1.heap.size := by omega
  exact ⟨_, rfl, H5.out.1.wide hs3 H5.out.2.size (Nat.le_refl _), (HBX2.out.2.1.trans (HF4.out.2.mono hs3)).trans (H5.out.2.below hs3 (by omega))⟩
end Go.Proofs.YtoppjohbmalhnaaDoor
