/- A player who goes up in a ladder: contracts. -/
import Derived.Test.YtofpaekokmkhgaaGreatDoorPerm
import Derived.Test.YtofpaekokmkhgaaGreatDoorShelf
import Derived.Lib.OwnBridge
import Derived.Sort.OwnSorted
import Derived.Deep.QuietTactic
import Derived.BigQuiet
import Derived.Test.YtofpaekokmkhgaaGreatDoorTri
import Derived.Test.YtofpaekokmkhgaaGreatDoorMap
namespace Go.Proofs.YtofpaekokmkhgaaGreatDoor
open Go.ChangeShapes Go.WideShapes Go.ChangeAt Go.RowKit

theorem own_full {w : World} {lo g n cap : Nat} {e : TypeId} {vs : List Value} (h : w.ownsRow lo e 1 (.slice (some ⟨g, 0, none⟩) n cap) n vs) :
    ∃ us : List Value, us.length = cap ∧ us.take n = vs ∧ n ≤ cap ∧ w.ownsRow lo e 1 (.slice (some ⟨g, 0, none⟩) cap cap) cap us := by
  rcases h.2 with ⟨e0, _⟩ | ⟨g', cap', cur, e0, hb, hg, hn, hm, hs, ht⟩
  · cases e0
  · injection e0 with e1 _ e3
    injection e1 with e1
    injection e1 with e1
    subst e1; subst e3
    refine ⟨cur.toList, by simpa using hs, by simpa using ht, hn, by simpa using hs, .inr ⟨g, cap, cur, rfl, hb, hg, Nat.le_refl _, hm, hs, ?_⟩⟩
    rw [List.take_of_length_le (by simp [hs])]
theorem own_cut {w : World} {lo g cap k : Nat} {e : TypeId} {us : List Value} (h : w.ownsRow lo e 1 (.slice (some ⟨g, 0, none⟩) cap cap) cap us) (hk : k ≤ cap) :
    w.ownsRow lo e 1 (.slice (some ⟨g, 0, none⟩) k cap) k (us.take k) := by
  have hl : us.length = cap := by simpa using h.1
  rcases h.2 with ⟨e0, _⟩ | ⟨g', cap', cur, e0, hb, hg, hn, hm, hs, ht⟩
  · cases e0
  · injection e0 with e1 _ e3
    injection e1 with e1
    injection e1 with e1
    subst e1; subst e3
    refine ⟨by simp; omega, .inr ⟨g, cap, cur, rfl, hb, hg, hk, hm, hs, ?_⟩⟩
    rw [← ht, List.take_take]; congr 1; omega
theorem own_setCells {lo g cap : Nat} {e : TypeId} : ∀ (vs : List Value) (o : Nat) (w : World) (us : List Value), w.ownsRow lo e 1 (.slice (some ⟨g, 0, none⟩) cap cap) cap us → o + vs.length ≤ cap →
    (w.setCells g o vs).ownsRow lo e 1 (.slice (some ⟨g, 0, none⟩) cap cap) cap (us.take o ++ vs ++ us.drop (o + vs.length)) ∧ Keep g (g + 1) w (w.setCells g o vs)
  | [], o, w, us, h, _ => by
    refine ⟨?_, Keep.refl _ _ _⟩
    simp only [List.append_nil, List.length_nil, Nat.add_zero, List.take_append_drop]
    exact h
  | v :: vs, o, w, us, h, hl => by
    have hul : us.length = cap := by simpa using h.1
    rw [List.length_cons] at hl
    obtain ⟨_, _, _, _, h4, h5⟩ := own_get h (k := o) (by omega) v
    obtain ⟨i1, i2⟩ := own_setCells vs (o + 1) _ _ h4 (by omega)
    refine ⟨?_, h5.trans i2⟩
    have e : us.take o ++ (v :: vs) ++ us.drop (o + (v :: vs).length) = (us.set o v).take (o + 1) ++ vs ++ (us.set o v).drop (o + 1 + vs.length) := by
      have e1 : (us.set o v).take (o + 1) = us.take o ++ [v] := by
        rw [take_snoc (x := v) (by rw [List.getElem?_set_self (by omega)])]
        rw [List.take_set_of_le (Nat.le_refl _)]
      have e2 : (us.set o v).drop (o + 1 + vs.length) = us.drop (o + (v :: vs).length) := by
        rw [List.drop_set_of_lt (by omega), List.length_cons]; congr 1; omega
      rw [e1, e2]; simp
    rw [e]; exact i1
end Go.Proofs.YtofpaekokmkhgaaGreatDoor
namespace Go.Proofs.YtofpaekokmkhgaaGreatDoor
open Go.ChangeShapes Go.WideShapes Go.ChangeAt Go.RowKit

theorem reverseI_any (g n c lo hi i : Nat) (c2 : Nat) (xs : List Int) (w : World) (hn : n = xs.length) (hnn : xs.length ≤ 1048576) (hf : Fr w lo hi (.slice (some ⟨g, 0, none⟩) n c) xs) (hi' : i ≤ n) :
    Calls Tryz.prog 66 #[.slice (some ⟨g, i, none⟩) (n - i) c2] w fun e w' => e = .returned (.tuple #[]) ∧ Fr w' lo hi (.slice (some ⟨g, 0, none⟩) n c) (xs.take i ++ (xs.drop i).reverse) ∧ Keep lo hi w w' := by
  obtain ⟨A', c', he, hc, hm⟩ := hf.form
  injection he with h1 h2 h3
  subst h1; subst h3; subst hn
  have hgh : g < hi := hf.2.1 g rfl
  have hlog : lo ≤ g := (hf.1.lt g rfl).1
  obtain ⟨us, hul, hut, _, hfull⟩ := own_full hf.1
  have hdl : (xs.drop i).length = xs.length - i := List.length_drop
  have h := Tryz.slices_Reverse_int_cells g i (xs.length - i) c2 (xs.drop i) w (by omega) (by omega) ?_ ?_
  · refine h.mono ?_
    rintro e w' ⟨rfl, q, rfl⟩
    have hz := own_setCells (((xs.drop i).take (xs.length - i)).reverse.map (Value.int .i64)) i (w.drewN q) us hfull (by simp; omega)
    have hk : Keep lo hi w ((w.drewN q).setCells g i (((xs.drop i).take (xs.length - i)).reverse.map (Value.int .i64))) := ((Keep.refl lo hi w).drewN q).trans (hz.2.wide hlog (by omega))
    refine ⟨rfl, ⟨?_, fun g' hg' => ?_, Nat.le_trans hf.2.2 hk.size⟩, hk⟩
    · have hcut := own_cut hz.1 (k := xs.length) hc
      have e : (us.take i ++ ((xs.drop i).take (xs.length - i)).reverse.map (Value.int .i64) ++ us.drop (i + (((xs.drop i).take (xs.length - i)).reverse.map (Value.int .i64)).length)).take xs.length = ints (xs.take i ++ (xs.drop i).reverse) := by
        rw [List.take_of_length_le (l := xs.drop i) (by omega)]
        rw [List.take_left' (by simp; omega)]
        have e1 : us.take i = ints (xs.take i) := by
          have : (us.take xs.length).take i = us.take i := by rw [List.take_take]; congr 1; omega
          rw [← this, hut]; simp [ints, List.map_take]
        rw [e1]; simp [ints]
      rw [e] at hcut
      rw [show (xs.take i ++ (xs.drop i).reverse).length = xs.length from by simp; omega]
      exact hcut
    · simp only [Value.ownBlock, Option.some.injEq] at hg'; omega
  · intro j hj
    rw [hf.1.cellAt (i + j) (by simp; omega)]
    have e : (xs.drop i).getD j 0 = xs[i + j]'(by omega) := by
      rw [List.getD_eq_getElem?_getD, List.getElem?_drop, List.getElem?_eq_getElem (by omega)]; rfl
    rw [e]
    exact ints_get (List.getElem?_eq_getElem (by omega))
  · intro j _
    exact hf.1.frozenAt (i + j)
end Go.Proofs.YtofpaekokmkhgaaGreatDoor
namespace Go.Proofs.YtofpaekokmkhgaaGreatDoor
open Go.ChangeShapes Go.WideShapes Go.ChangeAt Go.RowKit

theorem posR_lo {key : Int → Int} {l : List Int} {x : Int} : ∀ k, k ≤ l.length → ∀ i, i < posR key l x k → posR key l x k = i + 1 → ¬ key (l.getD i 0) < key x := by
  intro k
  induction k with
  | zero => intro _ i h; simp [posR] at h
  | succ k ih =>
    intro hk i hi e
    rw [posR] at hi e
    split at e
    · next h => rw [if_pos h] at hi; exact ih (by omega) i hi e
    · next h =>
      obtain rfl : k = i := by omega
      exact h
theorem posR_hi {key : Int → Int} {l : List Int} {x : Int} : ∀ k, k ≤ l.length → ∀ i, posR key l x k ≤ i → i < k → key (l.getD i 0) < key x := by
  intro k
  induction k with
  | zero => intro _ i _ h; omega
  | succ k ih =>
    intro hk i h1 h2
    rw [posR] at h1
    split at h1
    · next h =>
      rcases Nat.eq_or_lt_of_le (Nat.le_of_lt_succ h2) with rfl | h3
      · exact h
      · exact ih (by omega) i h1 h3
    · omega
def Desc (key : Int → Int) (l : List Int) : Prop := ∀ i j, i < j → j < l.length → key (l.getD j 0) ≤ key (l.getD i 0)
theorem insR_desc {key : Int → Int} {l : List Int} {x : Int} (h : Desc key l) : Desc key (insR key l x) := by
  have hp := posR_le key l x l.length
  have hlo := posR_lo (key := key) (l := l) (x := x) l.length (Nat.le_refl _)
  have hhi := posR_hi (key := key) (l := l) (x := x) l.length (Nat.le_refl _)
  have hlen := insR_length key l x
  unfold insR at hlen ⊢
  generalize hP : posR key l x l.length = p at *
  have hget : ∀ i, (l.take p ++ x :: l.drop p).getD i 0 = if i < p then l.getD i 0 else if i = p then x else l.getD (i - 1) 0 := by
    intro i
    rw [List.getD_eq_getElem?_getD]
    split
    · next h1 => rw [List.getElem?_append_left (by simp; omega), List.getElem?_take, if_pos h1, ← List.getD_eq_getElem?_getD]
    · next h1 =>
      rw [List.getElem?_append_right (by simp; omega)]
      have hm : (l.take p).length = p := by simp; omega
      rw [hm]
      split
      · next h2 => subst h2; simp
      · next h2 =>
        rw [show i - p = (i - 1 - p) + 1 by omega, List.getElem?_cons_succ, List.getElem?_drop, show p + (i - 1 - p) = i - 1 by omega, ← List.getD_eq_getElem?_getD]
  intro i j hij hj
  rw [hlen] at hj
  rw [hget i, hget j]
  by_cases hi : i < p
  · rw [if_pos hi]
    by_cases hj1 : j < p
    · rw [if_pos hj1]; exact h i j hij (by omega)
    · rw [if_neg hj1]
      by_cases hj2 : j = p
      · rw [if_pos hj2]
        have h1 := hlo (p - 1) (by omega) (by omega)
        rcases Nat.eq_or_lt_of_le (show i ≤ p - 1 by omega) with e | e
        · subst e; omega
        · have := h i (p - 1) e (by omega); omega
      · rw [if_neg hj2]; exact h i (j - 1) (by omega) (by omega)
  · rw [if_neg hi, if_neg (show ¬ j < p by omega), if_neg (show ¬ j = p by omega)]
    by_cases hi2 : i = p
    · rw [if_pos hi2]
      have := hhi (j - 1) (by omega) (by omega); omega
    · rw [if_neg hi2]; exact h (i - 1) (j - 1) (by omega) (by omega)
theorem insF_desc (key : Int → Int) : ∀ xs, Desc key (insF key xs) := by
  have h : ∀ (xs l : List Int), Desc key l → Desc key (xs.foldl (insR key) l) := by
    intro xs
    induction xs with
    | nil => intro l hl; exact hl
    | cons x xs ih => intro l hl; exact ih _ (insR_desc hl)
  intro xs
  exact h xs [] (fun i j _ hj => by simp at hj)

set_option maxHeartbeats 2000000 in
set_option maxRecDepth 100000 in
theorem byScore1_any (x : TourV) (hok : tourB x = true) (A : Option Addr) (c bq : Nat) (a b : Nat) (W : World) (ha : a < x.wins.length) (hb : b < x.wins.length)
    (hi : InT W (.agg #[.int .i64 x.size, .slice A x.wins.length c]) x) (hq : Bx W bq (.int .i64 x.size) (.slice A x.wins.length c)) :
    Calls Tryz.prog 87 #[.int .i64 (a : Int), .int .i64 (b : Int), .pointer (some ⟨bq, 0, none⟩)] W fun e W' => ∃ c : Int, e = .returned (.int .i64 c) ∧ (c < 0 ↔ scoreF x (b : Int) < scoreF x (a : Int)) ∧ Below W.heap.size W W' := by
  have HI := Lib.hid hi
  have HQ := Lib.hid hq
  obtain ⟨q0, q1, q2⟩ := hq
  have HS : Hid (∀ V (d : Nat), Below W.heap.size W V → d < x.wins.length → Calls Tryz.prog 32 #[.agg #[.int .i64 x.size, .slice A x.wins.length c], .int .i64 (d : Int)] V fun e w' => e = .returned (.int .i64 (scN x d : Nat)) ∧ Below V.heap.size V w') := fun V d hV hd => implScore_any _ x d V (HI.out.below hV) hok hd
  have HE : Hid (((scN x b : Nat) : Int) - (scN x a : Nat) < 0 ↔ scoreF x (b : Int) < scoreF x (a : Int)) := by
    show _ ↔ _
    rw [scoreF, scoreF, Int.toNat_natCast, Int.toNat_natCast]
    show ((scN x b : Nat) : Int) - (scN x a : Nat) < 0 ↔ ((scN x b : Nat) : Int) < ((scN x a : Nat) : Int)
    omega
  have hsa := scN_le x a
  have hsb := scN_le x b
  have HSA := Lib.hid (fun V hV => HS.out V a hV ha)
  have HSB := Lib.hid (fun V hV => HS.out V b hV hb)
  have eW : IntKind.i64.wrap (((scN x b : Nat) : Int) - (scN x a : Nat)) = ((scN x b : Nat) : Int) - (scN x a : Nat) := by rw [IntKind.wrap_i64]; omega
  generalize scN x a = SA at *
  generalize scN x b = SB at *
  have HB0 : Hid (Below W.heap.size W W.drew) := below_drewL (Below.refl _ _)
  clear hi HS
  go_enter Tryz.func87, Tryz.ntmps87
  go_wp2_with fail
  go_region_held3 (fun V => V.cell? ⟨bq, 0, none⟩ = some (.int .i64 x.size) ∧ V.cell? ⟨bq, 1, none⟩ = some (.slice A x.wins.length c)) (first | exact ⟨q0, q1⟩ | exact ⟨(HQ.out.below B2.out).1, (HQ.out.below B2.out).2.1⟩ | exact ⟨(HQ.out.below B1.out).1, (HQ.out.below B1.out).2.1⟩) (first
    | (go_at_call 32; (with_reducible refine (HSB.out _ HB0.out).mono ?_); rintro e w1 ⟨rfl, hb⟩; have B1 : Hid (Below W.heap.size W w1) := HB0.out.trans (hb.mono HB0.out.size); clear hb)
    | (have h_ := B1.out; clear h_; go_at_call 32; (with_reducible refine (HSA.out _ B1.out).mono ?_); rintro e w2 ⟨rfl, hb⟩; have B2 : Hid (Below W.heap.size W w2) := B1.out.trans (hb.mono B1.out.size); clear hb))
  go_wp2
  go_ret
  exact ⟨_, rfl, HE.out, B2.out⟩

/-- The players by their scores, the greatest first. -/
def byL (x : TourV) : List Int := insF (scoreF x) (idxs x.wins.length)
theorem byL_len (x : TourV) : (byL x).length = x.wins.length := by rw [byL, insF_length, idxs_length]
theorem byL_mem {x : TourV} {y : Int} : y ∈ byL x ↔ 0 ≤ y ∧ y < x.wins.length := by rw [byL, (insF_perm _ _).mem_iff, idxs_mem]
theorem Fr.someC {w : World} {lo hi : Nat} {v : Value} {xs : List Int} (h : Fr w lo hi v xs) (hl : 0 < xs.length) : ∃ g c, v = .slice (some ⟨g, 0, none⟩) xs.length c ∧ lo ≤ g ∧ g < hi := by
  obtain ⟨A, c, rfl, _, _⟩ := h.form
  obtain ⟨g, y, rfl, h1, h2, _⟩ := h.at_ hl
  exact ⟨g, c, rfl, h1, h2⟩
set_option maxHeartbeats 4000000 in
set_option maxRecDepth 100000 in
theorem byScore_any (v : Value) (x : TourV) (w : World) (hs : InT w v x) (hok : tourB x = true) :
    Calls Tryz.prog 64 #[v] w fun e w' => ∃ v', e = .returned v' ∧ Fr w' w.heap.size w'.heap.size v' (byL x) ∧ Below w.heap.size w w' := by
  have HIT := Lib.hid hs
  have HOK := Lib.hid hok
  obtain ⟨u, rfl, A, c, rfl, hc, hm, hsl⟩ := hs
  obtain ⟨t1, t2, t3, _, _⟩ := tourB_t hok
  have hn8 : x.wins.length ≤ 8 := by omega
  have HSZ : Hid (x.size = (x.wins.length : Int)) := t3.symm
  have HBX : Hid (Bx (w.alloc (.cells #[.int .i64 x.size, .slice A x.wins.length c] 25)) w.heap.size (.int .i64 x.size) (.slice A x.wins.length c) ∧ Below w.heap.size w (w.alloc (.cells #[.int .i64 x.size, .slice A x.wins.length c] 25)) ∧ (w.alloc (.cells #[.int .i64 x.size, .slice A x.wins.length c] 25)).heap.size = w.heap.size + 1) := ⟨⟨by simp, by simp, by simp⟩, (Below.refl _ w).alloc (Nat.le_refl _) _, World.size_alloc _ _⟩
  clear hsl
  have hn1 : 1 ≤ x.wins.length := by omega
  have HBX2 := HBX.out
  rw [HSZ.out] at HBX2
  rw [HSZ.out]
  obtain ⟨⟨q0, q1, q2⟩, -, -⟩ := id HBX2
  have HBX2 := Lib.hid HBX2
  clear t1 t2 t3
  go_enter Tryz.func64, Tryz.ntmps64
  go_wp2_with fail
  generalize hW1 : (w.alloc (.cells #[.int .i64 (x.wins.length : Int), .slice A x.wins.length c] 25)) = w1 at *
  refine (indices_any x.wins.length w1 (by omega)).mono ?_
  rintro e w4 ⟨v4, rfl, hf, hb⟩
  obtain ⟨gi, ci, rfl, hi1, hi2⟩ := hf.someC (by rw [idxs_length]; omega)
  rw [idxs_length] at hf
  have HF4 := Lib.hid (And.intro hf hb)
  have hsz4 := hb.size
  have hz1 := HBX2.out.2.2
  clear hf hb q0 q1 q2 hW1
  have HC : Hid (CmpBy w4 w1.heap.size w4.heap.size 87 #[.pointer (some ⟨w.heap.size, 0, none⟩)] (idxs x.wins.length) (scoreF x)) := by
    show CmpBy _ _ _ _ _ _ _
    intro W a b hk ha hb
    obtain ⟨a1, a2⟩ := idxs_mem.1 ha
    obtain ⟨b1, b2⟩ := idxs_mem.1 hb
    obtain ⟨a, rfl⟩ := Int.eq_ofNat_of_zero_le a1
    obtain ⟨b, rfl⟩ := Int.eq_ofNat_of_zero_le b1
    have B1 : Below w1.heap.size w1 W := HF4.out.2.trans (hk.below (Nat.le_refl _) hsz4)
    have B0 : Below w.heap.size w W := HBX2.out.2.1.trans (B1.mono (by omega))
    have hq : Bx W w.heap.size (.int .i64 x.size) (.slice A x.wins.length c) := by rw [HSZ.out]; exact HBX2.out.1.below B1
    exact byScore1_any x HOK.out A c w.heap.size a b W (by omega) (by omega) (HIT.out.below B0) hq
  have HSS := sortStable_any w4 w1.heap.size w4.heap.size gi ci (idxs x.wins.length) (scoreF x) 87 #[.pointer (some ⟨w.heap.size, 0, none⟩)] (by rw [idxs_length]; exact HF4.out.1) (by rw [idxs_length]; omega) (by rw [idxs_length]; omega) (fun _ _ => by kernel_rfl) HC.out
  rw [idxs_length] at HSS
  have HSH := Lib.hid HSS
  rw [idxs_length]
  clear HSS
  go_wp2_with fail
  refine HSH.out.mono ?_
  rintro e w5 ⟨rfl, hf5, kp5⟩
  have H5 : Hid (Fr w5 w1.heap.size w4.heap.size (.slice (some ⟨gi, 0, none⟩) x.wins.length ci) (byL x) ∧ Keep w1.heap.size w4.heap.size w4 w5) := ⟨hf5, kp5⟩
  clear hf5 kp5
  go_wp2
  go_ret
  have hs3 : w.heap.size ≤ w1.heap.size := by omega
  exact ⟨_, rfl, H5.out.1.wide hs3 H5.out.2.size (Nat.le_refl _), (HBX2.out.2.1.trans (HF4.out.2.mono hs3)).trans (H5.out.2.below hs3 (by omega))⟩
end Go.Proofs.YtofpaekokmkhgaaGreatDoor
