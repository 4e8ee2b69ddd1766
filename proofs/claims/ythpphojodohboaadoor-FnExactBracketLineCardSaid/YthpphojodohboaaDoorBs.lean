/- Brackets: the walks. -/
import Derived.Test.YthpphojodohboaaDoorBr
import Derived.Test.YthpphojodohboaaDoorTq
import Derived.Test.YthpphojodohboaaDoorTs
import Derived.Test.YthpphojodohboaaDoorOrd
import Derived.Test.YthpphojodohboaaDoorCu
import Derived.Test.YthpphojodohboaaDoorQt
import Derived.Deep.RegionHeld3
namespace Go.Proofs.YthpphojodohboaaDoor
open Go.ChangeShapes Go.WideShapes Go.ChangeAt Go.RowKit

theorem isBracketSize_any (n : Nat) (w : World) :
    Calls Tryd.prog 26 #[.int .i64 n] w fun e w' => e = .returned (.bool (brSize n)) ∧ w = w' := by
  by_cases h1 : n = 1
  · subst h1; go_enter Tryd.func26, Tryd.ntmps26; go_wp2; go_ret; exact ⟨rfl, rfl⟩
  by_cases h2 : n = 2
  · subst h2; go_enter Tryd.func26, Tryd.ntmps26; go_wp2; go_ret; exact ⟨rfl, rfl⟩
  by_cases h4 : n = 4
  · subst h4; go_enter Tryd.func26, Tryd.ntmps26; go_wp2; go_ret; exact ⟨rfl, rfl⟩
  by_cases h8 : n = 8
  · subst h8; go_enter Tryd.func26, Tryd.ntmps26; go_wp2; go_ret; exact ⟨rfl, rfl⟩
  have e1 : ((n : Int) == 1) = false := by have : ¬ (n : Int) = 1 := by omega
                                           simpa using this
  have e2 : ((n : Int) == 2) = false := by have : ¬ (n : Int) = 2 := by omega
                                           simpa using this
  have e4 : ((n : Int) == 4) = false := by have : ¬ (n : Int) = 4 := by omega
                                           simpa using this
  have e8 : ((n : Int) == 8) = false := by have : ¬ (n : Int) = 8 := by omega
                                           simpa using this
  have HE : Hid (brSize n = false) := by show _ = _; simp [brSize, h1, h2, h4, h8]
  clear h1 h2 h4 h8
  go_enter Tryd.func26, Tryd.ntmps26
  go_wp2
  go_ret
  exact ⟨ret_bool HE.out.symm, rfl⟩

theorem l21Size_any (n : Nat) (w : World) :
    Calls Tryd.prog 20 #[.int .i64 n] w fun e w' => e = .returned (.bool (brSize n)) ∧ w = w' := by
  by_cases h1 : n = 1
  · subst h1; go_enter Tryd.func20, Tryd.ntmps20; go_wp2; go_ret; exact ⟨rfl, rfl⟩
  by_cases h2 : n = 2
  · subst h2; go_enter Tryd.func20, Tryd.ntmps20; go_wp2; go_ret; exact ⟨rfl, rfl⟩
  by_cases h4 : n = 4
  · subst h4; go_enter Tryd.func20, Tryd.ntmps20; go_wp2; go_ret; exact ⟨rfl, rfl⟩
  by_cases h8 : n = 8
  · subst h8; go_enter Tryd.func20, Tryd.ntmps20; go_wp2; go_ret; exact ⟨rfl, rfl⟩
  have e1 : ((n : Int) == 1) = false := by have : ¬ (n : Int) = 1 := by omega
                                           simpa using this
  have e2 : ((n : Int) == 2) = false := by have : ¬ (n : Int) = 2 := by omega
                                           simpa using this
  have e4 : ((n : Int) == 4) = false := by have : ¬ (n : Int) = 4 := by omega
                                           simpa using this
  have e8 : ((n : Int) == 8) = false := by have : ¬ (n : Int) = 8 := by omega
                                           simpa using this
  have HE : Hid (brSize n = false) := by show _ = _; simp [brSize, h1, h2, h4, h8]
  clear h1 h2 h4 h8
  go_enter Tryd.func20, Tryd.ntmps20
  go_wp2
  go_ret
  exact ⟨ret_bool HE.out.symm, rfl⟩

set_option maxHeartbeats 800000 in
theorem slicesMax_any (A : Option Addr) (c : Nat) (xs : List Int) (w : World) (hs : SlI w A xs) (h0 : 0 < xs.length) (hn : xs.length ≤ 1048576) :
    Calls Tryd.prog 28 #[.slice A xs.length c] w fun e w' => e = .returned (.int .i64 (maxTo xs (xs.length - 1))) ∧ w = w' := by
  obtain ⟨b, off, x0, rfl, hx0, hc0, -⟩ := hs.at_ h0
  rw [Nat.add_zero] at hc0
  have HS := Lib.hid hs
  have H0 : Hid (maxTo xs 0 = x0) := getD_of hx0
  generalize hl : xs.length = n at *
  have HL := Lib.hid hl
  clear hl hs hx0
  go_enter Tryd.func28, Tryd.ntmps28
  go_wp2
  go_loop [3, 4] (fun m i => ∃ q : Nat, 1 ≤ q ∧ q ≤ n ∧ i = .int .i64 q ∧ m = .int .i64 (maxTo xs (q - 1))) (fun _ i => n - (intOf i).toNat)
  case atStart => exact ⟨1, Nat.le_refl _, h0, rfl, by rw [show 1 - 1 = 0 from rfl, H0.out]⟩
  case round =>
    obtain ⟨q, hq1, hq, rfl, rfl⟩ := hrel
    by_cases hlt : q < n
    · obtain ⟨b', off', y, e, hy, hcy, -⟩ := HS.out.at_ (k := q) (by rw [HL.out]; exact hlt)
      injection e with e; injection e with r1 r2 _; subst r1; subst r2
      have HN : Hid (maxTo xs (q + 1 - 1) = if maxTo xs (q - 1) < y then y else maxTo xs (q - 1)) := by
        show _ = _
        obtain ⟨j, rfl⟩ : ∃ j, q = j + 1 := ⟨q - 1, by omega⟩
        rw [show j + 1 + 1 - 1 = j + 1 from rfl, show j + 1 - 1 = j from rfl, maxTo, getD_of hy]
      clear hy
      generalize maxTo xs (q - 1) = M at *
      by_cases hm : M < y
      · have HN2 : Hid (maxTo xs (q + 1 - 1) = y) := by show _ = _; rw [HN.out, if_pos hm]
        go_wp2
        go_round
        case rel => exact ⟨q + 1, by omega, by omega, by go_num, by rw [HN2.out]; exact congrArg (Value.int .i64) (by omega)⟩
        case measure => simp [intOf]; omega
      · have HN2 : Hid (maxTo xs (q + 1 - 1) = M) := by show _ = _; rw [HN.out, if_neg hm]
        go_wp2
        go_round
        case rel => exact ⟨q + 1, by omega, by omega, by go_num, by rw [HN2.out]; exact congrArg (Value.int .i64) (by omega)⟩
        case measure => simp [intOf]; omega
    · obtain rfl : q = n := by omega
      go_wp2
      go_ret
      exact ⟨rfl, rfl⟩

set_option maxHeartbeats 4000000 in
set_option maxRecDepth 100000 in
theorem implBracketOk_any (v : Value) (x : TourV) (u : Value) (l : List Int) (w : World) (hs : InT w v x) (hu : InI w u l) (hn : l.length ≤ 1048576) :
    Calls Tryd.prog 15 #[v, u] w fun e w' => e = .returned (.bool (brB x l)) ∧ Below w.heap.size w w' := by
  have HIT := Lib.hid hs
  obtain ⟨u0, rfl, hs0⟩ := hs
  obtain ⟨A, c, rfl, hc, hm, hsl⟩ := hu
  have HS := Lib.hid hsl
  clear hs0 hsl
  unfold maxLen at hm
  have W1 : Hid (InT (w.alloc (.cells #[.int .i64 x.size, u0] 27)) (.agg #[.int .i64 x.size, u0]) x ∧ Below w.heap.size w (w.alloc (.cells #[.int .i64 x.size, u0] 27)) ∧ Bx (w.alloc (.cells #[.int .i64 x.size, u0] 27)) w.heap.size (.int .i64 x.size) u0) :=
    ⟨HIT.out.below ((Below.refl _ w).alloc (Nat.le_refl _) _), (Below.refl _ w).alloc (Nat.le_refl _) _, by simp [Bx]⟩
  obtain ⟨A0, c0, rfl, hc0, hm0, hsl0⟩ := show ∃ A c, u0 = .slice A x.wins.length c ∧ True ∧ True ∧ True by obtain ⟨u, h, A, c, h2, _⟩ := HIT.out; injection h with h; simp at h; subst h; exact ⟨A, c, h2, trivial, trivial, trivial⟩
  clear hc0 hm0 hsl0
  generalize hl : l.length = n at *
  have HL := Lib.hid hl
  clear hl
  go_enter Tryd.func15, Tryd.ntmps15
  go_wp2_with fail
  generalize w.alloc (.cells #[.int .i64 x.size, .slice A0 x.wins.length c0] 27) = w1 at *
  refine (implTourOk_any _ x w1 W1.out.1).mono ?_
  rintro e w2 ⟨rfl, hb⟩
  have W2 : Hid (Below w.heap.size w w2 ∧ Bx w2 w.heap.size (.int .i64 x.size) (.slice A0 x.wins.length c0)) := ⟨W1.out.2.1.trans (hb.mono W1.out.2.1.size), W1.out.2.2.below hb⟩
  clear hb
  cases h1 : tourB x
  case false =>
    go_wp2
    go_ret
    exact ⟨ret_bool (brB_tour h1).symm, W2.out.1⟩
  obtain ⟨t1, t2, _⟩ := tourB_t h1
  cases h2 : brSize n
  case false =>
    have HE : Hid (brB x l = false) := brB_size (by rw [HL.out]; exact h2)
    go_wp2_with (go_at_call 26; refine (isBracketSize_any n _).mono ?_; rintro e w' ⟨rfl, rfl⟩; rw [h2])
    go_ret
    exact ⟨ret_bool HE.out.symm, W2.out.1⟩
  have hn8 := brSize_le h2
  have H12 := Lib.hid (And.intro h1 h2)
  obtain ⟨q0, q1, hz⟩ := id W2.out.2
  go_wp2_with (go_at_call 26; refine (isBracketSize_any n _).mono ?_; rintro e w' ⟨rfl, rfl⟩; rw [h2])
  clear h1 h2
  have haw := allWithin_any A c l (-1) (x.size - 1) w2 (SlI.below HS.out W2.out.1) (by rw [HL.out]; omega)
  rw [HL.out] at haw
  refine haw.mono ?_
  rintro e w3 ⟨rfl, hb⟩
  have W3 : Hid (Below w.heap.size w w3) := W2.out.1.trans (hb.mono W2.out.1.size)
  clear hb haw q0 q1 hz
  cases h3 : l.all (fun a => inB a (-1) (x.size - 1))
  case false =>
    have HE : Hid (brB x l = false) := brB_ents (by rw [ents_split, h3]; rfl)
    go_wp2
    go_ret
    exact ⟨ret_bool HE.out.symm, W3.out⟩
  have HMX : Hid (someB l = decide (0 ≤ maxTo l (n - 1))) := by have := someB_max (l := l) (by rw [HL.out]; omega); rw [HL.out] at this; exact this
  have hmx := slicesMax_any A c l w3 (SlI.below HS.out W3.out) (by rw [HL.out]; omega) (by rw [HL.out]; omega)
  rw [HL.out] at hmx
  have H3 := Lib.hid h3
  go_wp2_with fail
  refine hmx.mono ?_
  rintro e w' ⟨rfl, rfl⟩
  clear hmx h3
  generalize maxTo l (n - 1) = M at *
  by_cases h4 : M < 0
  · have HE : Hid (brB x l = false) := brB_some (by rw [HMX.out]; simp; omega)
    go_wp2
    go_ret
    exact ⟨ret_bool HE.out.symm, W3.out⟩
  have H4 : Hid (someB l = true) := by show _ = _; rw [HMX.out]; simp; omega
  go_wp2
  go_loop [31] (fun i => ∃ j : Nat, j ≤ n ∧ i = .int .i64 j ∧ Hid (dupTo l j = true)) (fun i => n - (intOf i).toNat)
  case atStart => exact ⟨0, Nat.zero_le _, rfl, rfl⟩
  case round =>
    obtain ⟨j, hj, rfl, HD⟩ := hrel
    by_cases hlt : j < n
    case neg =>
      obtain rfl : n = j := by omega
      have HE : Hid (brB x l = true) := brB_mk H12.out.1 (by rw [HL.out]; exact H12.out.2) (by rw [ents_split, H3.out, HL.out, HD.out]; rfl) H4.out
      go_wp2
      go_ret
      exact ⟨ret_bool HE.out.symm, W3.out⟩
    obtain ⟨b, off, a, rfl, ha, hca, -⟩ := (SlI.below HS.out W3.out).at_ (k := j) (by rw [HL.out]; exact hlt)
    have HTK : Hid (SlI w3 (some ⟨b, off, none⟩) (l.take j) ∧ (l.take j).length = j) := ⟨(SlI.below HS.out W3.out).take_ j, by rw [List.length_take, HL.out]; omega⟩
    have HGD := Lib.hid (getD_of ha)
    clear ha
    by_cases h0 : 0 ≤ a
    case neg =>
      have HN : Hid (dupTo l (j + 1) = true) := by show _ = _; rw [dupTo_snoc, HD.out, HGD.out]; simp [h0]
      go_wp2
      go_round
      case rel => exact ⟨j + 1, by omega, by go_num, HN⟩
      case measure => simp [intOf]; omega
    have hcc := containsI_any (some ⟨b, off, none⟩) c (l.take j) a w3 HTK.out.1 (by rw [HTK.out.2]; omega)
    rw [HTK.out.2] at hcc
    have HCC := Lib.hid hcc
    clear hcc
    cases h5 : (l.take j).contains a
    case true =>
      have HE : Hid (brB x l = false) := brB_ents (by rw [ents_split, HL.out, dupTo_bad hlt (by rw [HGD.out]; exact h0) (by rw [HGD.out]; exact h5)]; simp)
      go_wp2_with (go_at_call 29; refine HCC.out.mono ?_; rintro e w' ⟨rfl, rfl⟩; rw [h5])
      go_ret
      exact ⟨ret_bool HE.out.symm, W3.out⟩
    · have HN : Hid (dupTo l (j + 1) = true) := by show _ = _; rw [dupTo_snoc, HD.out, HGD.out, h5]; simp
      go_wp2_with (go_at_call 29; refine HCC.out.mono ?_; rintro e w' ⟨rfl, rfl⟩; rw [h5])
      go_round
      case rel => exact ⟨j + 1, by omega, by go_num, HN⟩
      case measure => simp [intOf]; omega

set_option maxHeartbeats 4000000 in
set_option maxRecDepth 100000 in
theorem implNextRound_any (v : Value) (x : TourV) (u : Value) (l : List Int) (m : Nat) (w : World) (hs : InT w v x) (hu : InI w u l) (hok : tourB x = true) (hr : rngB x.wins.length l) (hl : l.length = 2 * m) (hm4 : m ≤ 4) :
    Calls Tryd.prog 17 #[v, u] w fun e w' => ∃ v', e = .returned v' ∧ Fr w' w.heap.size w'.heap.size v' (brNextTo x.wins l m) ∧ Below w.heap.size w w' := by
  obtain ⟨t1, t2, t3, t4, _⟩ := tourB_t hok
  have HIT := Lib.hid hs
  have HWB := Lib.hid t4
  obtain ⟨u0, rfl, A0, c0, rfl, hc0, hm0, hs0⟩ := hs
  obtain ⟨A, c, rfl, hc, hm, hsl⟩ := hu
  have HS := Lib.hid hsl
  have HR := Lib.hid hr
  have hn8 : x.wins.length ≤ 8 := by omega
  clear hs0 hsl hok t4 hr hc0 hm0
  unfold maxLen at hm
  have W1 : Hid (InT (w.alloc (.cells #[.int .i64 x.size, .slice A0 x.wins.length c0] 27)) (.agg #[.int .i64 x.size, .slice A0 x.wins.length c0]) x ∧ Below w.heap.size w (w.alloc (.cells #[.int .i64 x.size, .slice A0 x.wins.length c0] 27)) ∧ Bx (w.alloc (.cells #[.int .i64 x.size, .slice A0 x.wins.length c0] 27)) w.heap.size (.int .i64 x.size) (.slice A0 x.wins.length c0) ∧ SlI (w.alloc (.cells #[.int .i64 x.size, .slice A0 x.wins.length c0] 27)) A l) :=
    ⟨HIT.out.below ((Below.refl _ w).alloc (Nat.le_refl _) _), (Below.refl _ w).alloc (Nat.le_refl _) _, by simp [Bx], SlI.alloc HS.out _⟩
  rw [hl] at hc ⊢
  have HL := Lib.hid hl
  clear hl
  go_enter Tryd.func17, Tryd.ntmps17
  go_wp2_with fail
  generalize w.alloc (.cells #[.int .i64 x.size, .slice A0 x.wins.length c0] 27) = w1 at *
  have hz1 : w.heap.size < w1.heap.size := W1.out.2.2.1.2.2
  go_loopw [5, 6] (fun v i wr => ∃ (k : Nat) (fv : Value), k ≤ m ∧ i = .int .i64 ((2 * k : Nat) : Int) ∧ fv = v ∧ Hid (Fr wr w1.heap.size wr.heap.size fv (brNextTo x.wins l k) ∧ Below w1.heap.size w1 wr)) (fun _ i _ => 2 * m - (intOf i).toNat)
  case atStart => exact ⟨0, _, Nat.zero_le _, rfl, rfl, Fr.nil _ (Nat.le_refl _), Below.refl _ _⟩
  case round =>
    obtain ⟨k, fv, hk, rfl, rfl, HT⟩ := hrel
    by_cases hlt : k < m
    case neg =>
      obtain rfl : m = k := by omega
      go_wp2
      go_ret
      exact ⟨_, rfl, HT.out.1.wide (Nat.le_of_lt hz1) (Nat.le_refl _) (Nat.le_refl _), W1.out.2.1.trans (HT.out.2.mono (Nat.le_of_lt hz1))⟩
    obtain ⟨q, hq⟩ : ∃ q, q = 2 * k := ⟨_, rfl⟩
    obtain ⟨p, hp⟩ : ∃ p, p = q + 1 := ⟨_, rfl⟩
    have hql : q < 2 * m := by omega
    have hpl : p < 2 * m := by omega
    have J1 : IntKind.i64.wrap ((q : Int) + 1) = (p : Int) := by rw [IntKind.wrap_i64]; omega
    have hqn : (q : Int) + 2 ≤ 100 := by omega
    rw [← hq]
    obtain ⟨b, off, a, rfl, ha, hca, -⟩ := (SlI.below W1.out.2.2.2 HT.out.2).at_ (k := q) (by rw [HL.out]; exact hql)
    obtain ⟨b', off', d, e, hd, hcd, -⟩ := (SlI.below W1.out.2.2.2 HT.out.2).at_ (k := p) (by rw [HL.out]; exact hpl)
    injection e with e; injection e with r1 r2 _; subst r1; subst r2
    have hra := rngB_at HR.out ha
    have hrd := rngB_at HR.out hd
    have HNX : Hid (brNextTo x.wins l (k + 1) = brNextTo x.wins l k ++ [goesOn x.wins a d]) := by
      show _ = _
      rw [brNextTo, ← hq, ← hp, getD_of ha, getD_of hd]
    have HQ := Lib.hid (And.intro hq hp)
    have HXL : Hid ((brNextTo x.wins l k).length = k) := brNextTo_length _ _ _
    clear ha hd hq hp
    generalize brNextTo x.wins l k = xs at *
    go_wp2
    go_quiet (fail)
    have W2 : Hid (Fr (wr.drewN nq) w1.heap.size (wr.drewN nq).heap.size fv xs ∧ Below w1.heap.size w1 (wr.drewN nq)) := ⟨HT.out.1.drewN _, below_drewN HT.out.2 _⟩
    clear hca hcd
    generalize wr.drewN nq = w2 at *
    obtain ⟨q0, q1, _⟩ := W1.out.2.2.1.below W2.out.2
    have hxl16 : xs.length ≤ 1048576 := by rw [HXL.out]; omega
    by_cases h1 : a < 0
    · have HG : Hid (goesOn x.wins a d = d) := by show _ = _; unfold goesOn; rw [if_pos (.inl h1)]
      go_wp2_with (at_builtin; refine app1 rfl _ _ rfl w2 w1.heap.size fv xs.length xs rfl W2.out.1.own d rfl hxl16 W2.out.2.size ?_; intro v' w9 hown9 hb9 hsz9 _; have H9 : Hid (Fr w9 w1.heap.size w9.heap.size v' (xs ++ [d]) ∧ Below w1.heap.size w1 w9) := ⟨Fr.of_own (by rw [List.length_append, List.length_singleton]; exact hown9), W2.out.2.trans (hb9 w1.heap.size (Nat.le_refl _) W2.out.2.size)⟩; clear hown9 hb9 hsz9)
      go_roundw
      case rel => exact ⟨k + 1, _, by omega, by have := HQ.out.1; exact congrArg (Value.int .i64) (by omega), rfl, by rw [HNX.out, HG.out]; exact H9.out⟩
      case measure => simp [intOf]; omega
    by_cases h2 : 0 ≤ d
    case neg =>
      have HG : Hid (goesOn x.wins a d = a) := by show _ = _; unfold goesOn; rw [if_neg (by omega)]
      go_wp2_with (at_builtin; refine app1 rfl _ _ rfl w2 w1.heap.size fv xs.length xs rfl W2.out.1.own a rfl hxl16 W2.out.2.size ?_; intro v' w9 hown9 hb9 hsz9 _; have H9 : Hid (Fr w9 w1.heap.size w9.heap.size v' (xs ++ [a]) ∧ Below w1.heap.size w1 w9) := ⟨Fr.of_own (by rw [List.length_append, List.length_singleton]; exact hown9), W2.out.2.trans (hb9 w1.heap.size (Nat.le_refl _) W2.out.2.size)⟩; clear hown9 hb9 hsz9)
      go_roundw
      case rel => exact ⟨k + 1, _, by omega, by have := HQ.out.1; exact congrArg (Value.int .i64) (by omega), rfl, by rw [HNX.out, HG.out]; exact H9.out⟩
      case measure => simp [intOf]; omega
    obtain ⟨an, rfl⟩ := Int.eq_ofNat_of_zero_le (show 0 ≤ a by omega)
    obtain ⟨dn, rfl⟩ := Int.eq_ofNat_of_zero_le h2
    cases h3 : bt x.wins dn an
    · have HG : Hid (goesOn x.wins (an : Int) (dn : Int) = (an : Int)) := by show _ = _; unfold goesOn; rw [if_neg (by simp [h3])]
      have HBT := Lib.hid h3
      clear h3
      go_wp2_with (first | (go_at_call 31; refine (implBeats_any _ x dn an w2 (W1.out.1.below W2.out.2) hn8 HWB.out (by omega) (by omega)).mono ?_; rintro e w4 ⟨rfl, hb⟩; rw [HBT.out]; have W4 : Hid (Fr w4 w1.heap.size w4.heap.size fv xs ∧ Below w1.heap.size w1 w4) := ⟨(W2.out.1.grow hb).wide (Nat.le_refl _) hb.size (Nat.le_refl _), W2.out.2.trans (hb.mono W2.out.2.size)⟩; clear hb) | (at_builtin; refine app1 rfl _ _ rfl w4 w1.heap.size fv xs.length xs rfl W4.out.1.own (an : Int) rfl hxl16 W4.out.2.size ?_; intro v' w9 hown9 hb9 hsz9 _; have H9 : Hid (Fr w9 w1.heap.size w9.heap.size v' (xs ++ [(an : Int)]) ∧ Below w1.heap.size w1 w9) := ⟨Fr.of_own (by rw [List.length_append, List.length_singleton]; exact hown9), W4.out.2.trans (hb9 w1.heap.size (Nat.le_refl _) W4.out.2.size)⟩; clear hown9 hb9 hsz9))
      go_roundw
      case rel => exact ⟨k + 1, _, by omega, by have := HQ.out.1; exact congrArg (Value.int .i64) (by omega), rfl, by rw [HNX.out, HG.out]; exact H9.out⟩
      case measure => simp [intOf]; omega
    · have HG : Hid (goesOn x.wins (an : Int) (dn : Int) = (dn : Int)) := by show _ = _; unfold goesOn; rw [if_pos (by simp [h3])]
      have HBT := Lib.hid h3
      clear h3
      go_wp2_with (first | (go_at_call 31; refine (implBeats_any _ x dn an w2 (W1.out.1.below W2.out.2) hn8 HWB.out (by omega) (by omega)).mono ?_; rintro e w4 ⟨rfl, hb⟩; rw [HBT.out]; have W4 : Hid (Fr w4 w1.heap.size w4.heap.size fv xs ∧ Below w1.heap.size w1 w4) := ⟨(W2.out.1.grow hb).wide (Nat.le_refl _) hb.size (Nat.le_refl _), W2.out.2.trans (hb.mono W2.out.2.size)⟩; clear hb) | (at_builtin; refine app1 rfl _ _ rfl w4 w1.heap.size fv xs.length xs rfl W4.out.1.own (dn : Int) rfl hxl16 W4.out.2.size ?_; intro v' w9 hown9 hb9 hsz9 _; have H9 : Hid (Fr w9 w1.heap.size w9.heap.size v' (xs ++ [(dn : Int)]) ∧ Below w1.heap.size w1 w9) := ⟨Fr.of_own (by rw [List.length_append, List.length_singleton]; exact hown9), W4.out.2.trans (hb9 w1.heap.size (Nat.le_refl _) W4.out.2.size)⟩; clear hown9 hb9 hsz9))
      go_roundw
      case rel => exact ⟨k + 1, _, by omega, by have := HQ.out.1; exact congrArg (Value.int .i64) (by omega), rfl, by rw [HNX.out, HG.out]; exact H9.out⟩
      case measure => simp [intOf]; omega

set_option maxHeartbeats 1000000 in
set_option maxRecDepth 100000 in
theorem l21Game_any (v : Value) (x : TourV) (a d : Int) (w : World) (hs : InT w v x) (hok : tourB x = true) (ha : -1 ≤ a ∧ a < x.wins.length) (hd : -1 ≤ d ∧ d < x.wins.length) :
    Calls Tryd.prog 24 #[v, .int .i64 a, .int .i64 d] w fun e w' => e = .returned (.int .i64 (goesOn x.wins a d)) ∧ Below w.heap.size w w' := by
  obtain ⟨t1, t2, t3, t4, _⟩ := tourB_t hok
  have HIT := Lib.hid hs
  have HWB := Lib.hid t4
  obtain ⟨u0, rfl, A0, c0, rfl, hc0, hm0, hs0⟩ := hs
  have hn8 : x.wins.length ≤ 8 := by omega
  clear hs0 hok t4 hc0 hm0
  have W1 : Hid (InT (w.alloc (.cells #[.int .i64 x.size, .slice A0 x.wins.length c0] 27)) (.agg #[.int .i64 x.size, .slice A0 x.wins.length c0]) x ∧ Below w.heap.size w (w.alloc (.cells #[.int .i64 x.size, .slice A0 x.wins.length c0] 27)) ∧ Bx (w.alloc (.cells #[.int .i64 x.size, .slice A0 x.wins.length c0] 27)) w.heap.size (.int .i64 x.size) (.slice A0 x.wins.length c0)) :=
    ⟨HIT.out.below ((Below.refl _ w).alloc (Nat.le_refl _) _), (Below.refl _ w).alloc (Nat.le_refl _) _, by simp [Bx]⟩
  by_cases h1 : a = -1
  · have HG : Hid (goesOn x.wins a d = d) := by show _ = _; unfold goesOn; rw [if_pos (.inl (by omega))]
    subst h1
    go_enter Tryd.func24, Tryd.ntmps24
    go_wp2
    go_ret
    exact ⟨ret_int HG.out.symm, W1.out.2.1⟩
  have e1 : (a == -1) = false := by simpa using h1
  by_cases h2 : 0 ≤ d
  case neg =>
    have HG : Hid (goesOn x.wins a d = a) := by show _ = _; unfold goesOn; rw [if_neg (by omega)]
    go_enter Tryd.func24, Tryd.ntmps24
    go_wp2
    go_ret
    exact ⟨ret_int HG.out.symm, W1.out.2.1⟩
  obtain ⟨an, rfl⟩ := Int.eq_ofNat_of_zero_le (show 0 ≤ a by omega)
  obtain ⟨dn, rfl⟩ := Int.eq_ofNat_of_zero_le h2
  have HG : Hid (goesOn x.wins (an : Int) (dn : Int) = if bt x.wins dn an then (dn : Int) else (an : Int)) := by
    show _ = _; unfold goesOn
    cases h3 : bt x.wins dn an
    · rw [if_neg (by simp [h3])]; rfl
    · rw [if_pos (by simp [h3])]; rfl
  clear h1
  cases h3 : bt x.wins dn an
  all_goals
    have HBT := Lib.hid h3
    rw [h3] at HG
    clear h3
    go_enter Tryd.func24, Tryd.ntmps24
    go_wp2_with (go_at_call 33; refine (specBeats_any _ x dn an _ W1.out.1 hn8 HWB.out (by omega) (by omega)).mono ?_; rintro e w4 ⟨rfl, hb⟩; rw [HBT.out]; have W4 : Hid (Below w.heap.size w w4) := W1.out.2.1.trans (hb.mono W1.out.2.1.size); clear hb)
    go_ret
    exact ⟨ret_int (by rw [HG.out]; rfl), W4.out⟩

set_option maxRecDepth 100000 in
/-- 'append(out, x)' as a step of a region that draws: what the run gives. -/
theorem stepAppI {ops : Array Oper} {o : Oper} {a : Act} {w : World} {K : Act → World → Prop} {Q : Exit → Act → World → Prop} {E : Prop} (hgd : o.guard = none) (s y : Operand)
    (ho : o.op = .call { callee := .builtin .append, args := #[s, y], argTypes := #[22, 22] })
    (base : Nat) (v : Value) (n : Nat) (xs : List Int) (hs : a.eval s = v) (hown : w.ownsRow base 3 1 v n (ints xs)) (ad : Addr) (x : Int)
    (hx : a.eval y = .slice (some ad) 1 1) (hu : w.cell? ad = some (.int .i64 x)) (hl : n ≤ 1048576) (hbase : base ≤ w.heap.size)
    (h : ∀ v' w', w'.ownsRow base 3 1 v' (n + 1) (ints (xs ++ [x])) → w.grownBy w' v.ownBlock → K (a.put o.dst v') w') :
    if Region.wanted o (yielded ops a.tmps) = true then Oper.wp Tryd.prog o a w K Q else E := by
  obtain ⟨i0, hi, hz0, hz1, hz2⟩ := info_parts infoInt
  have hw : Region.wanted o (yielded ops a.tmps) = true := by simp [Region.wanted, hgd]
  rw [if_pos hw]
  obtain ⟨v', w', hrun, r1, r2, _⟩ := run_append_own (P := Tryd.prog) w base 22 o.type 3 i0 _ 1 8 Tryd.underlying22 hi hz0 hz1 hz2 rfl (by decide) v n (ints xs) hown ad 1 1 [.int .i64 x] rfl (by
    intro j u hj
    match j, hj with
    | 0, hj => simp at hj; subst hj; simpa [Addr.add] using hu) (by intro u hu; simp at hu; subst hu; rfl) (by unfold maxLen; omega) (by omega) hbase
  unfold Oper.wp
  simp [execOp, ho, resolve, invoke, builtin, hs, hx, hrun, Result.andThen]
  exact h v' w' (by rw [ints_append]; exact r1) r2

set_option maxHeartbeats 4000000 in
set_option maxRecDepth 100000 in
theorem specNextRound_any (v : Value) (x : TourV) (u : Value) (l : List Int) (m : Nat) (w : World) (hs : InT w v x) (hu : InI w u l) (hok : tourB x = true) (hr : rngB x.wins.length l) (hl : l.length = 2 * m) (hm4 : m ≤ 4) :
    Calls Tryd.prog 14 #[v, u] w fun e w' => ∃ v', e = .returned v' ∧ Fr w' w.heap.size w'.heap.size v' (brNextTo x.wins l m) ∧ Below w.heap.size w w' := by
  obtain ⟨t1, t2, t3, t4, _⟩ := tourB_t hok
  have HOK := Lib.hid hok
  have HIT := Lib.hid hs
  obtain ⟨u0, rfl, A0, c0, rfl, hc0, hm0, hs0⟩ := hs
  obtain ⟨A, c, rfl, hc, hm, hsl⟩ := hu
  have HS := Lib.hid hsl
  have HR := Lib.hid hr
  have hn8 : x.wins.length ≤ 8 := by omega
  clear hs0 hsl hok t4 hr hc0 hm0
  unfold maxLen at hm
  have W1 : Hid (InT (w.alloc (.cells #[.int .i64 x.size, .slice A0 x.wins.length c0] 27)) (.agg #[.int .i64 x.size, .slice A0 x.wins.length c0]) x ∧ Below w.heap.size w (w.alloc (.cells #[.int .i64 x.size, .slice A0 x.wins.length c0] 27)) ∧ Bx (w.alloc (.cells #[.int .i64 x.size, .slice A0 x.wins.length c0] 27)) w.heap.size (.int .i64 x.size) (.slice A0 x.wins.length c0) ∧ SlI (w.alloc (.cells #[.int .i64 x.size, .slice A0 x.wins.length c0] 27)) A l) :=
    ⟨HIT.out.below ((Below.refl _ w).alloc (Nat.le_refl _) _), (Below.refl _ w).alloc (Nat.le_refl _) _, by simp [Bx], SlI.alloc HS.out _⟩
  rw [hl] at hc ⊢
  have HL := Lib.hid hl
  clear hl
  go_enter Tryd.func14, Tryd.ntmps14
  go_upto_region 1 with (fail)
  generalize w.alloc (.cells #[.int .i64 x.size, .slice A0 x.wins.length c0] 27) = w1 at *
  have hz1 : w.heap.size < w1.heap.size := W1.out.2.2.1.2.2
  have hne1 : ¬ w.heap.size = w1.heap.size := by omega
  have F1 : Hid (Fr (w1.alloc (.cells #[] 3)) w1.heap.size (w1.alloc (.cells #[] 3)).heap.size (.slice (some ⟨w1.heap.size, 0, none⟩) 0 0) [] ∧ Below w1.heap.size w1 (w1.alloc (.cells #[] 3))) := ⟨Fr.of_own (World.ownsRow_lit (base := w1.heap.size) (e := 3) (size := 1) w1 #[] 0 (Nat.le_refl _) (by unfold maxLen; omega) rfl), (Below.refl _ w1).alloc (Nat.le_refl _) _⟩
  go_wp2
  generalize w1.alloc (.cells #[] 3) = w0 at *
  go_loopw [5, 6] (fun v i wr => ∃ (k : Nat) (fv : Value), k ≤ m ∧ i = .int .i64 ((2 * k : Nat) : Int) ∧ fv = v ∧ Hid (Fr wr w1.heap.size wr.heap.size fv (brNextTo x.wins l k) ∧ Below w1.heap.size w1 wr)) (fun _ i _ => 2 * m - (intOf i).toNat)
  case atStart => exact ⟨0, _, Nat.zero_le _, rfl, rfl, F1.out⟩
  case round =>
    obtain ⟨k, fv, hk, rfl, rfl, HT⟩ := hrel
    clear F1
    by_cases hlt : k < m
    case neg =>
      obtain rfl : m = k := by omega
      go_wp2
      go_ret
      exact ⟨_, rfl, HT.out.1.wide (Nat.le_of_lt hz1) (Nat.le_refl _) (Nat.le_refl _), W1.out.2.1.trans (HT.out.2.mono (Nat.le_of_lt hz1))⟩
    obtain ⟨q, hq⟩ : ∃ q, q = 2 * k := ⟨_, rfl⟩
    obtain ⟨p, hp⟩ : ∃ p, p = q + 1 := ⟨_, rfl⟩
    have hql : q < 2 * m := by omega
    have hpl : p < 2 * m := by omega
    have J1 : IntKind.i64.wrap ((q : Int) + 1) = (p : Int) := by rw [IntKind.wrap_i64]; omega
    have hqn : (q : Int) + 2 ≤ 100 := by omega
    have jp1 : (p : Int) < 2 * (m : Int) := by omega
    have jp2 : (p : Int) < ((2 * m : Nat) : Int) := by omega
    rw [← hq]
    obtain ⟨b, off, a, rfl, ha, hca, hblt⟩ := W1.out.2.2.2.at_ (k := q) (by rw [HL.out]; exact hql)
    obtain ⟨b', off', d, e, hd, hcd, -⟩ := W1.out.2.2.2.at_ (k := p) (by rw [HL.out]; exact hpl)
    injection e with e; injection e with r1 r2 _; subst r1; subst r2
    have hra := rngB_at HR.out ha
    have hrd := rngB_at HR.out hd
    have HNX : Hid (brNextTo x.wins l (k + 1) = brNextTo x.wins l k ++ [goesOn x.wins a d]) := by
      show _ = _
      rw [brNextTo, ← hq, ← hp, getD_of ha, getD_of hd]
    have HQ := Lib.hid (And.intro hq hp)
    have HXL : Hid ((brNextTo x.wins l k).length = k) := brNextTo_length _ _ _
    have KQ : Hid (∀ W, Below w1.heap.size w1 W → W.cell? ⟨w.heap.size, 0, none⟩ = some (.int .i64 x.size) ∧ W.cell? ⟨w.heap.size, 1, none⟩ = some (.slice A0 x.wins.length c0) ∧ W.cell? ⟨b, off + q, none⟩ = some (.int .i64 a) ∧ W.cell? ⟨b, off + p, none⟩ = some (.int .i64 d)) := fun W h =>
      ⟨(h.cell (p := ⟨w.heap.size, 0, none⟩) hz1).trans W1.out.2.2.1.1, (h.cell (p := ⟨w.heap.size, 1, none⟩) hz1).trans W1.out.2.2.1.2.1, (h.cell (p := ⟨b, off + q, none⟩) hblt).trans hca, (h.cell (p := ⟨b, off + p, none⟩) hblt).trans hcd⟩
    have HGA : Hid (∀ W, InT W (.agg #[.int .i64 x.size, .slice A0 x.wins.length c0]) x → Calls Tryd.prog 24 #[.agg #[.int .i64 x.size, .slice A0 x.wins.length c0], .int .i64 a, .int .i64 d] W fun e w' => e = .returned (.int .i64 (goesOn x.wins a d)) ∧ Below W.heap.size W w') := fun W h => l21Game_any _ x a d W h HOK.out hra hrd
    clear ha hd hq hp hca hcd
    generalize brNextTo x.wins l k = xs at *
    generalize goesOn x.wins a d = y at *
    have hxl16 : xs.length ≤ 1048576 := by rw [HXL.out]; omega
    obtain ⟨q0, q1, q2, q3⟩ := KQ.out wr HT.out.2
    have HB : Hid (Below wr.heap.size wr wr.drew) := (Below.refl _ _).drew
    go_wp2
    go_region_held3 (fun W => W.cell? ⟨w.heap.size, 0, none⟩ = some (.int .i64 x.size) ∧ W.cell? ⟨w.heap.size, 1, none⟩ = some (.slice A0 x.wins.length c0) ∧ W.cell? ⟨b, off + q, none⟩ = some (.int .i64 a) ∧ W.cell? ⟨b, off + p, none⟩ = some (.int .i64 d)) (first | exact ⟨q0, q1, q2, q3⟩ | exact KQ.out _ H9.out.2 | exact KQ.out _ (H4.out.2.alloc H4.out.2.size _) | exact KQ.out _ H4.out.2) (first
      | (go_at_call 24; (with_reducible refine (HGA.out _ (W1.out.1.below (HT.out.2.trans (HB.out.mono HT.out.2.size)))).mono ?_); rintro e w4 ⟨rfl, hb⟩; have H4 : Hid (Fr w4 w1.heap.size w4.heap.size fv xs ∧ Below w1.heap.size w1 w4) := (show _ ∧ _ from ⟨((HT.out.1.grow HB.out).grow hb).wide (Nat.le_refl _) (Nat.le_trans HB.out.size hb.size) (Nat.le_refl _), (HT.out.2.trans (HB.out.mono HT.out.2.size)).trans (hb.mono (Nat.le_trans HT.out.2.size HB.out.size))⟩); clear hb)
      | (refine stepAppI rfl (.tmp 14) (.tmp 26) rfl w1.heap.size fv xs.length xs rfl (World.ownsRow.alloc H4.out.1.own _) ⟨w4.heap.size, 0, none⟩ y rfl (by simp) hxl16 (by have := H4.out.2.size; simp; omega) ?_; intro v9 w9 hown9 hg9; have H9 : Hid (Fr w9 w1.heap.size w9.heap.size v9 (xs ++ [y]) ∧ Below w1.heap.size w1 w9) := (show _ ∧ _ from ⟨Fr.of_own (by rw [List.length_append, List.length_singleton]; exact hown9), (H4.out.2.alloc H4.out.2.size _).grown hg9 (by have := H4.out.2.size; simp; omega) (fun g hg => (H4.out.1.own.lt g hg).1)⟩); clear hown9 hg9))
    all_goals go_wp2
    all_goals go_roundw
    case rel => exact ⟨k + 1, _, by omega, by have := HQ.out.1; exact congrArg (Value.int .i64) (by omega), rfl, by rw [HNX.out]; exact H9.out⟩
    case measure => simp [intOf]; omega

theorem pow_wrap : ∀ k : Fin 8, wrap64 (2 ^ k.val) = (2 : Int) ^ k.val := by decide +kernel
theorem pow_cast : ∀ k : Fin 8, ((2 ^ k.val : Nat) : Int) = (2 : Int) ^ k.val := by decide
set_option maxHeartbeats 4000000 in
set_option maxRecDepth 100000 in
theorem specBracketOk_any (v : Value) (x : TourV) (u : Value) (l : List Int) (w : World) (hs : InT w v x) (hu : InI w u l) (hn : l.length ≤ 1048576) :
    Calls Tryd.prog 12 #[v, u] w fun e w' => e = .returned (.bool (brB x l)) ∧ Below w.heap.size w w' := by
  have HIT := Lib.hid hs
  obtain ⟨u0, rfl, hs0⟩ := hs
  obtain ⟨A, c, rfl, hc, hm, hsl⟩ := hu
  have HS := Lib.hid hsl
  clear hs0 hsl
  unfold maxLen at hm
  have W1 : Hid (InT (w.alloc (.cells #[.int .i64 x.size, u0] 27)) (.agg #[.int .i64 x.size, u0]) x ∧ Below w.heap.size w (w.alloc (.cells #[.int .i64 x.size, u0] 27)) ∧ Bx (w.alloc (.cells #[.int .i64 x.size, u0] 27)) w.heap.size (.int .i64 x.size) u0) :=
    ⟨HIT.out.below ((Below.refl _ w).alloc (Nat.le_refl _) _), (Below.refl _ w).alloc (Nat.le_refl _) _, by simp [Bx]⟩
  obtain ⟨A0, c0, rfl, -⟩ := show ∃ A c, u0 = .slice A x.wins.length c ∧ True by obtain ⟨u, h, A, c, h2, _⟩ := HIT.out; injection h with h; simp at h; subst h; exact ⟨A, c, h2, trivial⟩
  generalize hl : l.length = n at *
  have HL := Lib.hid hl
  clear hl
  go_enter Tryd.func12, Tryd.ntmps12
  go_wp2_with fail
  generalize w.alloc (.cells #[.int .i64 x.size, .slice A0 x.wins.length c0] 27) = w1 at *
  refine (specTourOk_any _ x w1 W1.out.1).mono ?_
  rintro e w2 ⟨rfl, hb⟩
  have W2 : Hid (Below w.heap.size w w2 ∧ Bx w2 w.heap.size (.int .i64 x.size) (.slice A0 x.wins.length c0)) := ⟨W1.out.2.1.trans (hb.mono W1.out.2.1.size), W1.out.2.2.below hb⟩
  clear hb
  cases h1 : tourB x
  case false =>
    go_wp2
    go_ret
    exact ⟨ret_bool (brB_tour h1).symm, W2.out.1⟩
  obtain ⟨t1, t2, _⟩ := tourB_t h1
  cases h2 : brSize n
  case false =>
    have HE : Hid (brB x l = false) := brB_size (by rw [HL.out]; exact h2)
    go_wp2_with (go_at_call 20; refine (l21Size_any n _).mono ?_; rintro e w' ⟨rfl, rfl⟩; rw [h2])
    go_ret
    exact ⟨ret_bool HE.out.symm, W2.out.1⟩
  have hn8 := brSize_le h2
  have H12 := Lib.hid (And.intro h1 h2)
  obtain ⟨q0, q1, hz⟩ := id W2.out.2
  have HSB : Hid (∀ k, k ≤ n → entsTo x.size l k = true → seenF l k < 256 ∧ ∀ b, b < 8 → (seenF l k).testBit b = (l.take k).contains (b : Int)) := fun k hk h => seenF_bits t2 k (by rw [HL.out]; exact hk) h
  go_wp2_with (go_at_call 20; refine (l21Size_any n _).mono ?_; rintro e w' ⟨rfl, rfl⟩; rw [h2])
  clear h1 h2
  go_loop [5, 19] (fun s i => ∃ j : Nat, j ≤ n ∧ i = .int .i64 j ∧ s = .int .i64 ((seenF l j : Nat) : Int) ∧ Hid (entsTo x.size l j = true)) (fun _ i => n - (intOf i).toNat)
  case atStart => exact ⟨0, Nat.zero_le _, rfl, rfl, rfl⟩
  case round =>
    obtain ⟨j, hj, rfl, rfl, HD⟩ := hrel
    obtain ⟨hs256, hsb⟩ := HSB.out j hj HD.out
    have HBT := Lib.hid hsb
    clear hsb
    by_cases hlt : j < n
    case neg =>
      obtain rfl : n = j := by omega
      have HE : Hid (brB x l = decide (0 < seenF l n)) := by
        show _ = _
        have h := someB_seen (l := l)
        rw [HL.out] at h
        unfold brB
        rw [H12.out.1, HL.out, H12.out.2, HD.out, h]; rfl
      generalize seenF l n = S at *
      by_cases h0 : 0 < S
      · go_wp2
        go_ret
        exact ⟨ret_bool (by rw [HE.out]; simp [h0]), W2.out.1⟩
      · obtain rfl : S = 0 := by omega
        go_wp2
        go_ret
        exact ⟨ret_bool (by rw [HE.out]; rfl), W2.out.1⟩
    obtain ⟨b, off, a, rfl, ha, hca, -⟩ := (SlI.below HS.out W2.out.1).at_ (k := j) (by rw [HL.out]; exact hlt)
    have HGD := Lib.hid (getD_of ha)
    clear ha
    have HEN : Hid (entsTo x.size l (j + 1) = entB x.size l j) := by show _ = _; rw [entsTo_snoc, HD.out]; rfl
    have HEB : Hid (entB x.size l j = (inB a (-1) (x.size - 1) && !(decide (0 ≤ a) && (l.take j).contains a))) := by show _ = _; unfold entB; rw [HGD.out]
    have HSE : Hid (seenF l (j + 1) = if 0 ≤ a then seenF l j + 2 ^ a.toNat else seenF l j) := by show _ = _; rw [seenF, HGD.out]
    have HBAD : Hid (entB x.size l j = false → brB x l = false) := fun h => brB_ents (entsTo_bad (by rw [HL.out]; exact hlt) h)
    by_cases h0 : a = -1
    · subst h0
      have HN : Hid (entsTo x.size l (j + 1) = true) := by show _ = _; rw [HEN.out, HEB.out, inB_mk (by omega) (by omega)]; rfl
      have HS2 : Hid (seenF l (j + 1) = seenF l j) := by show _ = _; rw [HSE.out, if_neg (by omega)]
      generalize seenF l j = S at *
      go_wp2
      go_round
      case rel => exact ⟨j + 1, by omega, by go_num, by rw [HS2.out], HN⟩
      case measure => simp [intOf]; omega
    have e0 : (a == -1) = false := by simpa using h0
    cases h3 : inB a 0 (x.size - 1)
    case false =>
      have HE : Hid (brB x l = false) := HBAD.out (by rw [HEB.out]; have := inB_f.1 h3; rw [show inB a (-1) (x.size - 1) = false from inB_f.2 (by omega)]; rfl)
      generalize seenF l j = S at *
      go_wp2_with (go_at_call 21; refine (l01In_any _ _ _ _).mono ?_; rintro e w' ⟨rfl, rfl⟩; rw [h3])
      go_ret
      exact ⟨ret_bool HE.out.symm, W2.out.1⟩
    have h3' := inB_t.1 h3
    obtain ⟨k, rfl⟩ := Int.eq_ofNat_of_zero_le h3'.1
    have hk7 : k ≤ 7 := by omega
    have HTB : Hid ((seenF l j).testBit k = (l.take j).contains (k : Int)) := HBT.out k (by omega)
    have e1 := bit_at (w := ((seenF l j : Nat) : Int)) (b := k) (by omega) (by omega) hk7
    rw [Int.toNat_natCast] at e1
    have HIN : Hid (inB (k : Int) (-1) (x.size - 1) = true) := inB_mk (by omega) (by omega)
    have HS3 : Hid (seenF l (j + 1) = seenF l j + 2 ^ k) := by show _ = _; rw [HSE.out, if_pos (by omega), Int.toNat_natCast]
    have e2 : wrap64 (2 ^ k) = (2 : Int) ^ k := pow_wrap ⟨k, by omega⟩
    have HPC : Hid (((2 ^ k : Nat) : Int) = (2 : Int) ^ k) := pow_cast ⟨k, by omega⟩
    have HBA : Hid ((seenF l j).testBit k = false → seenF l j + 2 ^ k < 256) := fun h => (bit_add ⟨seenF l j, hs256⟩ ⟨k, by omega⟩ h).1
    clear h0
    cases h4 : (seenF l j).testBit k
    case true =>
      have HE : Hid (brB x l = false) := HBAD.out (by rw [HEB.out, ← HTB.out, h4]; simp)
      rw [h4] at e1
      simp only [if_true] at e1
      clear h4
      generalize seenF l j = S at *
      go_wp2_with (go_at_call 21; refine (l01In_any _ _ _ _).mono ?_; rintro e w' ⟨rfl, rfl⟩; rw [h3])
      go_ret
      exact ⟨ret_bool HE.out.symm, W2.out.1⟩
    · have HN : Hid (entsTo x.size l (j + 1) = true) := by show _ = _; rw [HEN.out, HEB.out, HIN.out, ← HTB.out, h4]; simp
      have hb2 := HBA.out h4
      rw [h4] at e1
      simp only [Bool.false_eq_true, if_false] at e1
      clear h4
      have hb3 : ((seenF l j : Nat) : Int) + (2 : Int) ^ k < 256 := by rw [← HPC.out]; omega
      have hb4 : 0 ≤ (2 : Int) ^ k := by rw [← HPC.out]; exact Int.natCast_nonneg _
      have HS4 : Hid (((seenF l (j + 1) : Nat) : Int) = ((seenF l j : Nat) : Int) + (2 : Int) ^ k) := by show _ = _; rw [HS3.out, Int.natCast_add, HPC.out]
      clear hb2
      generalize seenF l j = S at *
      go_wp2_with (go_at_call 21; refine (l01In_any _ _ _ _).mono ?_; rintro e w' ⟨rfl, rfl⟩; rw [h3])
      go_round
      case rel => exact ⟨j + 1, by omega, by go_num, by rw [HS4.out], HN⟩
      case measure => simp [intOf]; omega
end Go.Proofs.YthpphojodohboaaDoor
