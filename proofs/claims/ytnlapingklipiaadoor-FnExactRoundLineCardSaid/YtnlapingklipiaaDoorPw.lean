/- A round of a plan as text: contracts. -/
import Derived.Test.YtnlapingklipiaaDoorPn
import Derived.Test.YtnlapingklipiaaDoorPm
import Derived.Test.YtnlapingklipiaaDoorFz
namespace Go.Proofs.YtnlapingklipiaaDoor
open Go.ChangeShapes Go.WideShapes Go.ChangeAt Go.RowKit

theorem planB_row {n : Int} {P : List (List Int)} (h : planB n P = true) {r : Nat} {R : List Int} (hr : P[r]? = some R) : 2 ≤ n ∧ n ≤ 10 ∧ (R.length : Int) = n ∧ ∀ k, k < R.length → -n ≤ R.getD k 0 ∧ R.getD k 0 ≤ n := by
  unfold planB clubsB at h
  simp only [Bool.and_eq_true] at h
  have h1 := inB_t.1 h.1.1
  have h2 := List.all_eq_true.1 h.2.2 R (List.mem_of_getElem? hr)
  unfold roundB at h2
  rw [Bool.and_eq_true] at h2
  refine ⟨h1.1, h1.2, by simpa using h2.1, fun k hk => ?_⟩
  have h3 := allTo_t.1 h2.2 k hk
  unfold elB at h3
  simp only [Bool.and_eq_true] at h3
  exact inB_t.1 h3.2.1

def wordAt (k : Nat) (v : Int) : List UInt8 := Lib.itoa k ++ [45] ++ Lib.itoa (v - 1)
def wordsTo (R : List Int) : Nat → List (List UInt8)
  | 0 => []
  | j + 1 => if 0 < R.getD j 0 then wordsTo R j ++ [wordAt j (R.getD j 0)] else wordsTo R j
theorem wordsTo_pos {R : List Int} {j : Nat} {v : Int} (hv : R.getD j 0 = v) (h : 0 < v) : wordsTo R (j + 1) = wordsTo R j ++ [wordAt j v] := by
  rw [wordsTo, hv, if_pos h]
theorem wordsTo_neg {R : List Int} {j : Nat} {v : Int} (hv : R.getD j 0 = v) (h : ¬ 0 < v) : wordsTo R (j + 1) = wordsTo R j := by
  rw [wordsTo, hv, if_neg h]
theorem wordsTo_le (R : List Int) (j : Nat) : (wordsTo R j).length ≤ j := by
  induction j with
  | zero => simp [wordsTo]
  | succ j ih =>
    rw [wordsTo]
    split
    · simp only [List.length_append, List.length_singleton]; omega
    · omega
theorem wordAt_len {k : Nat} {v : Int} (hk : k ≤ 1000) (h0 : 0 < v) (h1 : v ≤ 1000) : (wordAt k v).length ≤ 43 := by
  have h2 := Lib.itoa_length_le (k : Int) (by omega) (by omega)
  have h3 := Lib.itoa_length_le (v - 1) (by omega) (by omega)
  simp only [wordAt, List.length_append, List.length_singleton]; omega
theorem wordsTo_len {R : List Int} {j : Nat} (hj : j ≤ 1000) (h : ∀ k, k < j → R.getD k 0 ≤ 1000) : ∀ l ∈ wordsTo R j, l.length ≤ 43 := by
  induction j with
  | zero => simp [wordsTo]
  | succ j ih =>
    rw [wordsTo]
    intro l hl
    split at hl
    · rename_i h0
      rcases List.mem_append.1 hl with hl | hl
      · exact ih (by omega) (fun k hk => h k (by omega)) l hl
      · rw [List.mem_singleton.1 hl]
        exact wordAt_len (by omega) h0 (h j (by omega))
    · exact ih (by omega) (fun k hk => h k (by omega)) l hl
theorem wordsJoin_len {R : List Int} {j : Nat} (hj : j ≤ 1000) (h : ∀ k, k < j → R.getD k 0 ≤ 1000) : (Lib.join (wordsTo R j) [32]).length ≤ 44000 := by
  have h1 := join_bound (c := 32) (wordsTo_len hj h)
  have h2 := wordsTo_le R j
  omega
theorem wordB (k : Nat) (v : Int) : ((⟨(Lib.itoa k).toArray⟩ : ByteArray) ++ ⟨#[45]⟩) ++ ⟨(Lib.itoa (v - 1)).toArray⟩ = ⟨(wordAt k v).toArray⟩ := by
  rw [show (⟨#[45]⟩ : ByteArray) = ⟨[45].toArray⟩ from rfl, bcat, bcat]; rfl
def roundOk (n : Int) (P : List (List Int)) (r : Int) : Bool := planB n P && inB r 0 ((P.length : Int) - 1)
def roundText (n : Int) (P : List (List Int)) (r : Int) : List UInt8 :=
  if roundOk n P r then Lib.join (wordsTo (P.getD r.toNat []) (P.getD r.toNat []).length) [32] else [110, 111, 110, 101]

set_option maxHeartbeats 1000000 in
theorem l16At_any (n : Int) (v : Value) (P : List (List Int)) (r : Int) (w : World) (hs : InS w v P) (hn : bulk P ≤ 1048576) :
    Calls Tryd.prog 10 #[.int .i64 n, v, .int .i64 r, .int .i64 0] w fun e w' => e = .returned (.bool (roundOk n P r)) ∧ ∃ d, w' = w.drewN d := by
  have HC := Lib.hid (specPlanOk_any n v P w hs hn)
  have hbl := bulk_len P
  obtain ⟨A, c, vs, rfl, hvl, hc, hm, -, -⟩ := hs
  cases h1 : planB n P
  case false =>
    go_enter Tryd.func10, Tryd.ntmps10
    go_wp2_with (go_at_call 20; refine HC.out.mono ?_; rintro e w' ⟨rfl, d, rfl⟩; rw [h1])
    go_ret
    exact ⟨ret_bool (by simp [roundOk, h1]), _, rfl⟩
  have hnr : 2 ≤ n ∧ n ≤ 10 := by
    have := h1
    unfold planB clubsB at this
    simp only [Bool.and_eq_true] at this
    exact inB_t.1 this.1.1
  have h3 : inB 0 0 (n - 1) = true := inB_t.2 (by omega)
  cases h2 : inB r 0 ((P.length : Int) - 1)
  case false =>
    go_enter Tryd.func10, Tryd.ntmps10
    go_wp2_with (first | (go_at_call 20; refine HC.out.mono ?_; rintro e w' ⟨rfl, d, rfl⟩; rw [h1]) | (go_at_call 21; refine (l01In_any _ _ _ _).mono ?_; rintro e w' ⟨rfl, rfl⟩))
    go_ret
    exact ⟨ret_bool (by simp [roundOk, h2]), _, rfl⟩
  go_enter Tryd.func10, Tryd.ntmps10
  go_wp2_with (first | (go_at_call 20; refine HC.out.mono ?_; rintro e w' ⟨rfl, d, rfl⟩; rw [h1]) | (go_at_call 21; refine (l01In_any _ _ _ _).mono ?_; rintro e w' ⟨rfl, rfl⟩))
  go_ret
  exact ⟨ret_bool (by simp [roundOk, h1, h2]), _, rfl⟩

set_option maxHeartbeats 4000000 in
set_option maxRecDepth 100000 in
theorem specRoundLine_any (n : Int) (v : Value) (P : List (List Int)) (r : Int) (w : World) (hs : InS w v P) (hn : bulk P ≤ 1048576) :
    Calls Tryd.prog 5 #[.int .i64 n, v, .int .i64 r] w fun e w' => e = .returned (.string ⟨(roundText n P r).toArray⟩) ∧ Below w.heap.size w w' := by
  have HC := Lib.hid (l16At_any n v P r w hs hn)
  have HS := Lib.hid hs
  obtain ⟨A, c, vs, rfl, hvl, hc, hm, -, -⟩ := hs
  have hbl := bulk_len P
  unfold maxLen at hm
  cases h1 : roundOk n P r
  case false =>
    have HT : Hid (roundText n P r = [110, 111, 110, 101]) := by show _ = _; simp [roundText, h1]
    go_enter Tryd.func5, Tryd.ntmps5
    go_wp2_with (go_at_call 10; refine HC.out.mono ?_; rintro e w' ⟨rfl, d, rfl⟩; rw [h1])
    go_ret
    exact ⟨by rw [HT.out]; rfl, below_of_drewN _ _ _⟩
  have hb := h1
  unfold roundOk at hb
  rw [Bool.and_eq_true] at hb
  have hr := inB_t.1 hb.2
  obtain ⟨q, rfl⟩ := Int.eq_ofNat_of_zero_le hr.1
  have hq : q < P.length := by omega
  have hR : P[q]? = some P[q] := List.getElem?_eq_getElem hq
  obtain ⟨hn1, hn2, hlR, hev⟩ := planB_row hb.1 hR
  have HT : Hid (roundText n P (q : Int) = Lib.join (wordsTo P[q] P[q].length) [32]) := by
    show _ = _
    unfold roundText
    rw [if_pos h1, Int.toNat_natCast, List.getD_eq_getElem?_getD, hR]; rfl
  have HJL : Hid ((Lib.join (wordsTo P[q] P[q].length) [32]).length ≤ 44000) := wordsJoin_len (by omega) (fun k hk => by have := hev k hk; omega)
  have HEV := Lib.hid hev
  have HCELL : Hid (∀ wr : World, InS wr (.slice A P.length c) P → ∃ b off A1 c1, A = some ⟨b, off, none⟩ ∧ wr.cell? ⟨b, off + q, none⟩ = some (.slice A1 P[q].length c1) ∧ P[q].length ≤ c1 ∧ SlI wr A1 P[q]) := by
    intro wr h
    obtain ⟨b, off, u, R, rfl, hu, hcell, hin, -⟩ := h.at_ (k := q) hq
    obtain rfl : P[q] = R := Option.some.inj (hR.symm.trans hu)
    obtain ⟨A1, c1, rfl, hc1, -, hsl⟩ := hin
    exact ⟨b, off, A1, c1, rfl, hcell, hc1, hsl⟩
  clear hev hb hR
  generalize hgr : P[q] = R at *
  clear hgr
  generalize hlr : R.length = m at *
  have HRL := Lib.hid hlr
  clear hlr
  go_enter Tryd.func5, Tryd.ntmps5
  go_wp2_with fail
  refine HC.out.mono ?_
  rintro e w' ⟨rfl, d, rfl⟩
  rw [h1]
  have W1 : Hid (InS (w.drewN d) (.slice A P.length c) P ∧ (w.drewN d).heap.size = w.heap.size ∧ Below w.heap.size w (w.drewN d)) := ⟨InS.below HS.out (below_of_drewN _ _ _), rfl, below_of_drewN _ _ _⟩
  generalize w.drewN d = w1 at *
  obtain ⟨b, off, A1, c1, rfl, hcell, hc1, hsl⟩ := HCELL.out w1 W1.out.1
  have HSL := Lib.hid hsl
  have hblt := block_lt_of_cell hcell
  have hcell2 : (w1.alloc (.cells #[] 9)).cell? ⟨b, off + q, none⟩ = some (.slice A1 m c1) := (World.cell?_alloc_lt w1 _ ⟨b, off + q, none⟩ hblt).trans hcell
  have hne1 : ¬ b = w1.heap.size := by simp only at hblt; omega
  have hne2 : ¬ w1.heap.size = b := by omega
  clear hsl
  go_wp2
  go_loopw [7, 21] (fun v i wr => ∃ (j : Nat) (fv : Value), j ≤ m ∧ i = .int .i64 j ∧ fv = v ∧ Hid (wr.ownsRow w1.heap.size 9 1 fv (wordsTo R j).length (strs (wordsTo R j)) ∧ Below w1.heap.size w1 wr)) (fun _ i _ => m - (intOf i).toNat)
  case atStart => exact ⟨0, _, Nat.zero_le _, rfl, rfl, World.ownsRow_lit (base := w1.heap.size) (e := 9) (size := 1) w1 #[] 0 (Nat.le_refl _) (by unfold maxLen; omega) rfl, (Below.refl _ w1).alloc (Nat.le_refl _) _⟩
  case round =>
    obtain ⟨j, fv, hj, rfl, rfl, HR⟩ := hrel
    by_cases hlt : j < m
    case neg =>
      obtain rfl : j = m := by omega
      obtain ⟨A2, c2, rfl, _⟩ := ownZ_form HR.out.1
      have HSV : Hid (SlV wr A2 (strs (wordsTo R j))) := SlV.of_own HR.out.1
      go_wp2_with fail
      have hjn := specJoin_any A2 c2 (wordsTo R j) [32] wr HSV.out (by have := wordsTo_le R j; omega) (by simp) (by have := HJL.out; omega)
      refine hjn.mono ?_
      rintro e w2 ⟨rfl, rfl⟩
      go_wp2
      go_ret
      exact ⟨by rw [HT.out]; rfl, W1.out.2.2.trans (HR.out.2.mono W1.out.2.2.size)⟩
    obtain ⟨b2, o2, x, rfl, hx, hcx, -⟩ := (SlI.below HSL.out HR.out.2).at_ (k := j) (by rw [HRL.out]; exact hlt)
    have HX : Hid (R.getD j 0 = x) := by show _ = _; rw [List.getD_eq_getElem?_getD, hx]; rfl
    have hxr := HEV.out j hlt
    rw [HX.out] at hxr
    clear hx
    by_cases h0 : 0 < x
    case neg =>
      have HW := Lib.hid (wordsTo_neg HX.out h0)
      go_wp2
      go_roundw
      case rel => exact ⟨j + 1, fv, by omega, by go_num, rfl, by rw [HW.out]; exact HR.out⟩
      case measure => simp [intOf]; omega
    have HW := Lib.hid (wordsTo_pos HX.out h0)
    have HWL : Hid ((wordsTo R j).length ≤ 1000) := by show _ ≤ _; have := wordsTo_le R j; omega
    have HB := Lib.hid (wordB j x)
    have hl1 := Lib.itoa_length_le (j : Int) (by omega) (by omega)
    have hl2 := Lib.itoa_length_le (x - 1) (by omega) (by omega)
    go_wp2_with (first | (have h_ := H2.out; clear h_; go_at_call 11; refine (specFormatInt_any (x - 1) _ (by omega) (by omega)).mono ?_; rintro e w3 ⟨rfl, hb⟩; have H3 : Hid (w3.ownsRow w1.heap.size 9 1 fv (wordsTo R j).length (strs (wordsTo R j)) ∧ Below w1.heap.size w1 w3) := ⟨ownZ_below H2.out.1 hb, H2.out.2.trans (hb.mono H2.out.2.size)⟩; clear hb) | (go_at_call 11; refine (specFormatInt_any (j : Int) _ (by omega) (by omega)).mono ?_; rintro e w2 ⟨rfl, hb⟩; have H2 : Hid (w2.ownsRow w1.heap.size 9 1 fv (wordsTo R j).length (strs (wordsTo R j)) ∧ Below w1.heap.size w1 w2) := ⟨ownZ_below HR.out.1 hb, HR.out.2.trans (hb.mono HR.out.2.size)⟩; clear hb) | (go_at_call 12; refine (l16Other_any x (x - 1) _ (by rw [opp_eq, if_pos h0]) (by omega) (by omega)).mono ?_; rintro e w' ⟨rfl, rfl⟩) | (at_builtin; rw [HB.out]; refine appZ rfl _ _ rfl w3 w1.heap.size fv (wordsTo R j).length _ rfl H3.out.1 (wordAt j x) rfl (by have := HWL.out; omega) H3.out.2.size ?_; intro v' w4 hown4 hb4 hsz4 _; have H4 : Hid (w4.ownsRow w1.heap.size 9 1 v' (wordsTo R (j + 1)).length (strs (wordsTo R (j + 1))) ∧ Below w1.heap.size w1 w4) := ⟨by rw [HW.out, List.length_append]; exact hown4, H3.out.2.trans (hb4 w1.heap.size (Nat.le_refl _) H3.out.2.size)⟩; clear hown4 hb4 hsz4))
    all_goals exact ⟨⟨j + 1, _, by omega, by go_num, rfl, H4.out⟩, by simp [intOf]; omega⟩

theorem implJoin_any0 (v : Value) (lo n : Nat) (ls : List (List UInt8)) (sep : List UInt8) (w : World) (hs : w.ownsRow lo 9 1 v n (strs ls)) (hn : n ≤ 1048576) (hlen : (Lib.join ls sep).length ≤ 1099511627776) :
    Calls Tryd.prog 18 #[v, .string ⟨sep.toArray⟩] w fun e w' => e = .returned (.string ⟨(Lib.join ls sep).toArray⟩) ∧ Below w.heap.size w w' := by
  by_cases h0 : 0 < n
  · exact implJoin_any v lo n ls sep w hs hn h0 hlen
  obtain rfl : n = 0 := by omega
  have hl : ls = [] := List.eq_nil_of_length_eq_zero (by have := hs.1; rw [strs_length] at this; simpa using this)
  subst hl
  obtain ⟨A, c, rfl, _⟩ := ownZ_form hs
  go_enter Tryd.func18, Tryd.ntmps18
  go_wp2_with fail
  refine (Tryd.strings_Join_none A c ⟨sep.toArray⟩ w).mono ?_
  rintro e w2 ⟨rfl, rfl⟩
  go_wp2
  go_ret
  exact ⟨rfl, Below.refl _ _⟩

set_option maxHeartbeats 4000000 in
set_option maxRecDepth 100000 in
theorem implRoundLine_any (n : Int) (v : Value) (P : List (List Int)) (r : Int) (w : World) (hs : InS w v P) (hn : bulk P ≤ 1048576) (ht : tabP w) :
    Calls Tryd.prog 7 #[.int .i64 n, v, .int .i64 r] w fun e w' => e = .returned (.string ⟨(roundText n P r).toArray⟩) ∧ Below w.heap.size w w' := by
  have HC := Lib.hid (implPlanOk_any n v P w hs hn)
  have HS := Lib.hid hs
  have HTT := Lib.hid ht
  clear ht
  obtain ⟨A, c, vs, rfl, hvl, hc, hm, -, -⟩ := hs
  have hbl := bulk_len P
  unfold maxLen at hm
  cases h1 : planB n P
  case false =>
    have HT : Hid (roundText n P r = [110, 111, 110, 101]) := by show _ = _; simp [roundText, roundOk, h1]
    go_enter Tryd.func7, Tryd.ntmps7
    go_wp2_with (go_at_call 15; refine HC.out.mono ?_; rintro e w' ⟨rfl, d, rfl⟩; rw [h1])
    go_ret
    exact ⟨by rw [HT.out]; rfl, below_of_drewN _ _ _⟩
  cases h2 : inB r 0 ((P.length : Int) - 1)
  case false =>
    have HT : Hid (roundText n P r = [110, 111, 110, 101]) := by show _ = _; simp [roundText, roundOk, h2]
    go_enter Tryd.func7, Tryd.ntmps7
    go_wp2_with (first | (go_at_call 15; refine HC.out.mono ?_; rintro e w' ⟨rfl, d, rfl⟩; rw [h1]) | (go_at_call 16; refine (within_any _ _ _ _).mono ?_; rintro e w' ⟨rfl, rfl⟩; rw [h2]))
    go_ret
    exact ⟨by rw [HT.out]; rfl, below_of_drewN _ _ _⟩
  have hb : planB n P = true ∧ inB r 0 ((P.length : Int) - 1) = true := ⟨h1, h2⟩
  have h3 : roundOk n P r = true := by simp [roundOk, h1, h2]
  have hr := inB_t.1 h2
  obtain ⟨q, rfl⟩ := Int.eq_ofNat_of_zero_le hr.1
  have hq : q < P.length := by omega
  have hR : P[q]? = some P[q] := List.getElem?_eq_getElem hq
  obtain ⟨hn1, hn2, hlR, hev⟩ := planB_row hb.1 hR
  have HT : Hid (roundText n P (q : Int) = Lib.join (wordsTo P[q] P[q].length) [32]) := by
    show _ = _
    unfold roundText
    rw [if_pos h3, Int.toNat_natCast, List.getD_eq_getElem?_getD, hR]; rfl
  have HJL : Hid ((Lib.join (wordsTo P[q] P[q].length) [32]).length ≤ 44000) := wordsJoin_len (by omega) (fun k hk => by have := hev k hk; omega)
  have HEV := Lib.hid hev
  have HCELL : Hid (∀ wr : World, InS wr (.slice A P.length c) P → ∃ b off A1 c1, A = some ⟨b, off, none⟩ ∧ wr.cell? ⟨b, off + q, none⟩ = some (.slice A1 P[q].length c1) ∧ P[q].length ≤ c1 ∧ SlI wr A1 P[q]) := by
    intro wr h
    obtain ⟨b, off, u, R, rfl, hu, hcell, hin, -⟩ := h.at_ (k := q) hq
    obtain rfl : P[q] = R := Option.some.inj (hR.symm.trans hu)
    obtain ⟨A1, c1, rfl, hc1, -, hsl⟩ := hin
    exact ⟨b, off, A1, c1, rfl, hcell, hc1, hsl⟩
  clear hev hb hR
  generalize hgr : P[q] = R at *
  clear hgr
  generalize hlr : R.length = m at *
  have HRL := Lib.hid hlr
  clear hlr
  go_enter Tryd.func7, Tryd.ntmps7
  go_wp2_with (go_at_call 15; refine HC.out.mono ?_; rintro e w' ⟨rfl, d, rfl⟩; rw [h1])
  refine (within_any _ _ _ _).mono ?_; rintro e w' ⟨rfl, rfl⟩; rw [h2]
  have W1 : Hid (InS (w.drewN d) (.slice A P.length c) P ∧ (w.drewN d).heap.size = w.heap.size ∧ Below w.heap.size w (w.drewN d)) := ⟨InS.below HS.out (below_of_drewN _ _ _), rfl, below_of_drewN _ _ _⟩
  have HTW : Hid (tabP (w.drewN d)) := HTT.out.drewN d
  generalize w.drewN d = w1 at *
  obtain ⟨b, off, A1, c1, rfl, hcell, hc1, hsl⟩ := HCELL.out w1 W1.out.1
  have HSL := Lib.hid hsl
  have hblt := block_lt_of_cell hcell
  have hcell2 : (w1.alloc (.cells #[] 9)).cell? ⟨b, off + q, none⟩ = some (.slice A1 m c1) := (World.cell?_alloc_lt w1 _ ⟨b, off + q, none⟩ hblt).trans hcell
  have hne1 : ¬ b = w1.heap.size := by simp only at hblt; omega
  have hne2 : ¬ w1.heap.size = b := by omega
  clear hsl
  go_wp2
  go_loopw [7, 27] (fun v i wr => ∃ (j : Nat) (fv : Value), j ≤ m ∧ i = .int .i64 j ∧ fv = v ∧ Hid (wr.ownsRow w1.heap.size 9 1 fv (wordsTo R j).length (strs (wordsTo R j)) ∧ Below w1.heap.size w1 wr)) (fun _ i _ => m - (intOf i).toNat)
  case atStart => exact ⟨0, _, Nat.zero_le _, rfl, rfl, World.ownsRow_nil _ _ _ _, Below.refl _ _⟩
  case round =>
    obtain ⟨j, fv, hj, rfl, rfl, HR⟩ := hrel
    by_cases hlt : j < m
    case neg =>
      obtain rfl : j = m := by omega
      go_wp2_with fail
      refine (implJoin_any0 fv _ _ (wordsTo R j) [32] wr HR.out.1 (by have := wordsTo_le R j; omega) (by have := HJL.out; omega)).mono ?_
      rintro e w2 ⟨rfl, hb⟩
      have HB2 : Hid (Below w1.heap.size w1 w2) := HR.out.2.trans (hb.mono HR.out.2.size)
      clear hb
      go_wp2
      go_ret
      exact ⟨by rw [HT.out]; rfl, W1.out.2.2.trans (HB2.out.mono W1.out.2.2.size)⟩
    obtain ⟨b2, o2, x, rfl, hx, hcx, -⟩ := (SlI.below HSL.out HR.out.2).at_ (k := j) (by rw [HRL.out]; exact hlt)
    have HX : Hid (R.getD j 0 = x) := by show _ = _; rw [List.getD_eq_getElem?_getD, hx]; rfl
    have hxr := HEV.out j hlt
    rw [HX.out] at hxr
    clear hx
    by_cases h0 : 0 < x
    case neg =>
      have HW := Lib.hid (wordsTo_neg HX.out h0)
      go_wp2
      go_roundw
      case rel => exact ⟨j + 1, fv, by omega, by go_num, rfl, by rw [HW.out]; exact HR.out⟩
      case measure => simp [intOf]; omega
    have HW := Lib.hid (wordsTo_pos HX.out h0)
    have HWL : Hid ((wordsTo R j).length ≤ 1000) := by show _ ≤ _; have := wordsTo_le R j; omega
    have HB := Lib.hid (wordB j x)
    have hl1 := Lib.itoa_length_le (j : Int) (by omega) (by omega)
    have hl2 := Lib.itoa_length_le (x - 1) (by omega) (by omega)
    have HTB : Hid (tabP wr) := HTW.out.below HR.out.2 (Nat.le_refl _)
    go_wp2_with (first | (have h_ := H2.out; clear h_; go_at_call 17; refine (implFormatInt_any (x - 1) _ (by omega) (by omega) (HTW.out.below H2.out.2 (Nat.le_refl _))).mono ?_; rintro e w3 ⟨rfl, hb⟩; have H3 : Hid (w3.ownsRow w1.heap.size 9 1 fv (wordsTo R j).length (strs (wordsTo R j)) ∧ Below w1.heap.size w1 w3) := ⟨ownZ_below H2.out.1 hb, H2.out.2.trans (hb.mono H2.out.2.size)⟩; clear hb) | (go_at_call 17; refine (implFormatInt_any (j : Int) _ (by omega) (by omega) HTB.out).mono ?_; rintro e w2 ⟨rfl, hb⟩; have H2 : Hid (w2.ownsRow w1.heap.size 9 1 fv (wordsTo R j).length (strs (wordsTo R j)) ∧ Below w1.heap.size w1 w2) := ⟨ownZ_below HR.out.1 hb, HR.out.2.trans (hb.mono HR.out.2.size)⟩; clear hb) | (at_builtin; rw [HB.out]; refine appZ rfl _ _ rfl w3 w1.heap.size fv (wordsTo R j).length _ rfl H3.out.1 (wordAt j x) rfl (by have := HWL.out; omega) H3.out.2.size ?_; intro v' w4 hown4 hb4 hsz4 _; have H4 : Hid (w4.ownsRow w1.heap.size 9 1 v' (wordsTo R (j + 1)).length (strs (wordsTo R (j + 1))) ∧ Below w1.heap.size w1 w4) := ⟨by rw [HW.out, List.length_append]; exact hown4, H3.out.2.trans (hb4 w1.heap.size (Nat.le_refl _) H3.out.2.size)⟩; clear hown4 hb4 hsz4))
    all_goals exact ⟨⟨j + 1, _, by omega, by go_num, rfl, H4.out⟩, by simp [intOf]; omega⟩
end Go.Proofs.YtnlapingklipiaaDoor
