/- Banks' set: the spec's contract. -/
import Derived.Test.YtoppjohbmalhnaaDoorBnk
namespace Go.Proofs.YtoppjohbmalhnaaDoor
open Go.ChangeShapes Go.WideShapes Go.ChangeAt Go.RowKit

set_option maxHeartbeats 4000000 in
set_option maxRecDepth 100000 in
theorem specBanks_any (v : Value) (x : TourV) (w : World) (hs : InT w v x) (hok : tourB x = true) :
    Calls Tryd.prog 14 #[v] w fun e w' => e = .returned (.int .i64 (banksF x : Nat)) ∧ Below w.heap.size w w' := by
  have HIT := Lib.hid hs
  have HOK := Lib.hid hok
  obtain ⟨u, rfl, A, c, rfl, hc, hm, hsl⟩ := hs
  obtain ⟨t1, t2, t3, _, _⟩ := tourB_t hok
  have hn8 : x.wins.length ≤ 8 := by omega
  have h256 : (2 : Nat) ^ x.wins.length ≤ 256 := Nat.pow_le_pow_right (by omega) hn8
  have hpos : 1 ≤ (2 : Nat) ^ x.wins.length := Nat.one_le_two_pow
  have HW : Hid (∀ b, winN x b < 256) := fun b => Nat.lt_of_lt_of_le (win_all hok b) h256
  obtain ⟨bk, off, rfl, hlk, hcell⟩ := win_cells hok hsl
  have HC := Lib.hid (And.intro hlk hcell)
  have HTO : Hid (∀ W, Below w.heap.size w W → Calls Tryd.prog 10 #[.agg #[.int .i64 x.size, .slice (some ⟨bk, off, none⟩) x.wins.length c]] W fun e w' => e = .returned (.bool true) ∧ Below W.heap.size W w') := fun W hW => by
    have h := specTourOk_any _ x W (HIT.out.below hW)
    rwa [HOK.out] at h
  have HALL : Hid (∀ W, Below w.heap.size w W → Calls Tryd.prog 27 #[.agg #[.int .i64 x.size, .slice (some ⟨bk, off, none⟩) x.wins.length c]] W fun e w' => e = .returned (.int .i64 ((2 ^ x.wins.length - 1 : Nat) : Int)) ∧ Below W.heap.size W w') := fun W hW => l02All_any _ x W (HIT.out.below hW) HOK.out
  have HPT : Hid (∀ W (s : Nat), Below w.heap.size w W → s ≠ 0 → s < 2 ^ x.wins.length → Calls Tryd.prog 28 #[.agg #[.int .i64 x.size, .slice (some ⟨bk, off, none⟩) x.wins.length c], .int .i64 (s : Int)] W fun e w' => ∃ v', e = .returned (.tuple #[.agg #[.int .i64 ((memL s).length : Int), v'], .bool true]) ∧ Fr w' W.heap.size w'.heap.size v' (pwL x (memL s)) ∧ Below W.heap.size W w') := fun W s hW h0 h1 => specPartTour_any _ x s W (HIT.out.below hW) HOK.out h0 h1
  have HBF : Hid (banksF x = bkT x (2 ^ x.wins.length)) := rfl
  have HKL : Hid (∀ s : Nat, s ≤ 2 ^ x.wins.length → bkT x s < 2 ^ x.wins.length) := fun s hs => bkT_lt hn8 s hs
  have HTL : Hid (∀ s k : Nat, s < 2 ^ x.wins.length → topT x s k < 2 ^ x.wins.length) := fun s k hs => topT_lt hs hn8 k
  have HTT : Hid (∀ s : Nat, s ≠ 0 → s < 2 ^ x.wins.length → transN x s = !triB (partV x s)) := fun s h0 h1 => transN_tri HOK.out h0 h1
  have HPO : Hid (∀ s : Nat, s ≠ 0 → s < 2 ^ x.wins.length → tourB (partV x s) = true) := fun s h0 h1 => part_ok HOK.out h0 h1
  obtain ⟨T, HT⟩ : ∃ T : Nat, Hid (2 ^ x.wins.length = T) := ⟨_, rfl⟩
  rw [HT.out] at h256 hpos HALL HPT HBF HKL HTL HTT HPO
  have HBX : Hid (Bx (w.alloc (.cells #[.int .i64 x.size, .slice (some ⟨bk, off, none⟩) x.wins.length c] 27)) w.heap.size (.int .i64 x.size) (.slice (some ⟨bk, off, none⟩) x.wins.length c) ∧ Below w.heap.size w (w.alloc (.cells #[.int .i64 x.size, .slice (some ⟨bk, off, none⟩) x.wins.length c] 27))) := ⟨⟨by simp, by simp, by simp⟩, (Below.refl _ w).alloc (Nat.le_refl _) _⟩
  clear hsl hok t1 t2 t3 hlk hcell hm
  go_enter Tryd.func14, Tryd.ntmps14
  go_wp2_with (go_at_call 10; refine (HTO.out _ HBX.out.2).mono ?_; rintro e w0 ⟨rfl, hb⟩; have H0 : Hid (Bx w0 w.heap.size (.int .i64 x.size) (.slice (some ⟨bk, off, none⟩) x.wins.length c) ∧ Below w.heap.size w w0) := ⟨HBX.out.1.below hb, HBX.out.2.trans (hb.mono HBX.out.2.size)⟩; clear hb HBX)
  go_loopw [3, 4] (fun o i wr => ∃ (s : Nat), 1 ≤ s ∧ s ≤ T ∧ i = .int .i64 s ∧ o = .int .i64 (bkT x s : Nat) ∧ Hid (Bx wr w.heap.size (.int .i64 x.size) (.slice (some ⟨bk, off, none⟩) x.wins.length c) ∧ Below w.heap.size w wr)) (fun _ i _ => T - (intOf i).toNat)
  case atStart => exact ⟨1, Nat.le_refl _, hpos, rfl, rfl, H0.out⟩
  case round =>
    obtain ⟨s, hs1, hsT, rfl, rfl, HR⟩ := hrel
    obtain ⟨wo, rfl⟩ : ∃ W, W = wr := ⟨wr, rfl⟩
    clear H0
    obtain ⟨q0, q1, q2⟩ := id HR.out.1
    have HA := Lib.hid (HALL.out wo HR.out.2)
    by_cases hlt : s < T
    case neg =>
      obtain rfl : s = T := by omega
      have hT1 : ¬ ((s : Int) ≤ ((s - 1 : Nat) : Int)) := by omega
      go_wp2_with (go_at_call 27; refine HA.out.mono ?_; rintro e w1 ⟨rfl, hb⟩; have H1 : Hid (Below w.heap.size w w1) := HR.out.2.trans (hb.mono HR.out.2.size); clear hb q0 q1 q2)
      go_ret
      exact ⟨by rw [HBF.out]; rfl, H1.out⟩
    have hT1 : (s : Int) ≤ ((T - 1 : Nat) : Int) := by omega
    have hs256 : s < 256 := by omega
    have hs0 : s ≠ 0 := by omega
    have HTB := Lib.hid (HTT.out s hs0 hlt)
    obtain ⟨T1, HT1⟩ : ∃ T1 : Nat, Hid (T - 1 = T1) := ⟨_, rfl⟩
    rw [HT1.out] at hT1 HA
    cases htb : triB (partV x s)
    case true =>
      have HX : Hid (bkT x (s + 1) = bkT x s) := bkT_skip (fun h => by rw [HTB.out, htb] at h; cases h.1)
      go_wp2_with (first
        | (go_at_call 27; refine HA.out.mono ?_; rintro e w1 ⟨rfl, hb⟩; have H1 : Hid (Bx w1 w.heap.size (.int .i64 x.size) (.slice (some ⟨bk, off, none⟩) x.wins.length c) ∧ Below w.heap.size w w1) := ⟨HR.out.1.below hb, HR.out.2.trans (hb.mono HR.out.2.size)⟩; clear hb q0 q1 q2; obtain ⟨q0, q1, q2⟩ := id H1.out.1)
        | (go_at_call 28; refine (HPT.out w1 s H1.out.2 hs0 hlt).mono ?_; rintro e w2 ⟨v2, rfl, hf, hb⟩; obtain ⟨hin, A2, c2, rfl⟩ := partIn hf; have hal : Below w2.heap.size w2 (w2.alloc (.cells #[.int .i64 ((memL s).length : Int), .slice A2 (memL s).length c2] 27)) := (Below.refl _ w2).alloc (Nat.le_refl _) _; have H2 : Hid (Bx (w2.alloc (.cells #[.int .i64 ((memL s).length : Int), .slice A2 (memL s).length c2] 27)) w.heap.size (.int .i64 x.size) (.slice (some ⟨bk, off, none⟩) x.wins.length c) ∧ Below w.heap.size w (w2.alloc (.cells #[.int .i64 ((memL s).length : Int), .slice A2 (memL s).length c2] 27)) ∧ InT (w2.alloc (.cells #[.int .i64 ((memL s).length : Int), .slice A2 (memL s).length c2] 27)) (.agg #[.int .i64 ((memL s).length : Int), .slice A2 (memL s).length c2]) (partV x s)) := ⟨(H1.out.1.below hb).below hal, (H1.out.2.trans (hb.mono H1.out.2.size)).trans (hal.mono (H1.out.2.trans (hb.mono H1.out.2.size)).size), hin.below hal⟩; clear hb hf hin hal q0 q1 q2)
        | (go_at_call 29; refine (l04All_any _ (partV x s) _ H2.out.2.2 (HPO.out s hs0 hlt)).mono ?_; rintro e w4 ⟨A4, n4, c4, rfl, hn4, hb⟩; have H4 : Hid (Bx w4 w.heap.size (.int .i64 x.size) (.slice (some ⟨bk, off, none⟩) x.wins.length c) ∧ Below w.heap.size w w4) := ⟨H2.out.1.below hb, H2.out.2.1.trans (hb.mono H2.out.2.1.size)⟩; clear hb; rw [htb] at hn4; have hn5 : (0 : Int) < (n4 : Int) := (by have := of_decide_eq_true hn4; omega)))
      go_roundw
      case rel => exact ⟨s + 1, by omega, by omega, by go_num, by rw [HX.out], H4.out⟩
      case measure => simp [intOf]; omega
    case false =>
      have HTN : Hid (transN x s = true) := by show _ = _; rw [HTB.out, htb]; rfl
      go_wp2_with (first
        | (go_at_call 27; refine HA.out.mono ?_; rintro e w1 ⟨rfl, hb⟩; have H1 : Hid (Bx w1 w.heap.size (.int .i64 x.size) (.slice (some ⟨bk, off, none⟩) x.wins.length c) ∧ Below w.heap.size w w1) := ⟨HR.out.1.below hb, HR.out.2.trans (hb.mono HR.out.2.size)⟩; clear hb q0 q1 q2; obtain ⟨q0, q1, q2⟩ := id H1.out.1)
        | (go_at_call 28; refine (HPT.out w1 s H1.out.2 hs0 hlt).mono ?_; rintro e w2 ⟨v2, rfl, hf, hb⟩; obtain ⟨hin, A2, c2, rfl⟩ := partIn hf; have hal : Below w2.heap.size w2 (w2.alloc (.cells #[.int .i64 ((memL s).length : Int), .slice A2 (memL s).length c2] 27)) := (Below.refl _ w2).alloc (Nat.le_refl _) _; have H2 : Hid (Bx (w2.alloc (.cells #[.int .i64 ((memL s).length : Int), .slice A2 (memL s).length c2] 27)) w.heap.size (.int .i64 x.size) (.slice (some ⟨bk, off, none⟩) x.wins.length c) ∧ Below w.heap.size w (w2.alloc (.cells #[.int .i64 ((memL s).length : Int), .slice A2 (memL s).length c2] 27)) ∧ InT (w2.alloc (.cells #[.int .i64 ((memL s).length : Int), .slice A2 (memL s).length c2] 27)) (.agg #[.int .i64 ((memL s).length : Int), .slice A2 (memL s).length c2]) (partV x s)) := ⟨(H1.out.1.below hb).below hal, (H1.out.2.trans (hb.mono H1.out.2.size)).trans (hal.mono (H1.out.2.trans (hb.mono H1.out.2.size)).size), hin.below hal⟩; clear hb hf hin hal q0 q1 q2)
        | (go_at_call 29; refine (l04All_any _ (partV x s) _ H2.out.2.2 (HPO.out s hs0 hlt)).mono ?_; rintro e w4 ⟨A4, n4, c4, rfl, hn4, hb⟩; have H4 : Hid (Bx w4 w.heap.size (.int .i64 x.size) (.slice (some ⟨bk, off, none⟩) x.wins.length c) ∧ Below w.heap.size w w4) := ⟨H2.out.1.below hb, H2.out.2.1.trans (hb.mono H2.out.2.1.size)⟩; clear hb; rw [htb] at hn4; obtain rfl : n4 = 0 := (by have := of_decide_eq_false hn4; omega); obtain ⟨q0, q1, q2⟩ := id H4.out.1))
      clear q0 q1 q2
      go_loop [7, 8, 33] (fun f g i => ∃ (a : Nat), a ≤ x.wins.length ∧ i = .int .i64 a ∧ f = .bool (!covT x s a) ∧ g = .int .i64 (topT x s a : Nat)) (fun _ _ i => x.wins.length - (intOf i).toNat)
      case atStart => exact ⟨0, Nat.zero_le _, rfl, rfl, rfl⟩
      case round =>
        obtain ⟨a, ha, rfl, rfl, rfl⟩ := hrel
        by_cases hlta : a < x.wins.length
        case neg =>
          obtain rfl : a = x.wins.length := by omega
          cases hcv : covT x s x.wins.length
          case true =>
            have HX : Hid (bkT x (s + 1) = bkT x s) := bkT_skip (fun h => by rw [hcv] at h; cases h.2)
            go_wp2
            go_roundw
            case rel => exact ⟨s + 1, by omega, by omega, by go_num, by rw [HX.out], H4.out⟩
            case measure => simp [intOf]; omega
          case false =>
            have HX : Hid (bkT x (s + 1) = bkT x s ||| topT x s x.wins.length) := bkT_take hs0 HTN.out hcv
            have h1 := HKL.out s (Nat.le_of_lt hlt)
            have h2 := HTL.out s x.wins.length hlt
            have hor := or_small (show bkT x s < 256 by omega) (show topT x s x.wins.length < 256 by omega)
            go_wp2
            go_roundw
            case rel => exact ⟨s + 1, by omega, by omega, by go_num, by rw [HX.out], H4.out⟩
            case measure => simp [intOf]; omega
        case pos =>
          have q := (H4.out.2.cell (p := ⟨bk, off + a, none⟩) HC.out.1).trans (HC.out.2 a hlta)
          have hand : bits BinOp.andNot IntKind.i64 (s : Int) (winN x a : Int) = ((outN x s a : Nat) : Int) := andNot_small hs256 (HW.out a)
          have hbb := bits_low (k := a) hs256
          have ha64 : (a : Int) < 64 := by omega
          have ha8 : a < 8 := by omega
          have HCT : Hid (covT x s (a + 1) = (covT x s a || decide (outN x s a = 0))) := rfl
          have HTP : Hid (topT x s (a + 1) = if s.testBit a && decide (outN x s a = 2 ^ a) then 2 ^ a else topT x s a) := rfl
          have hsh := pow_lt8 ha8
          obtain ⟨Q, hQ⟩ : ∃ Q : Nat, 2 ^ a = Q := ⟨_, rfl⟩
          rw [hQ] at HTP hsh
          generalize outN x s a = O at *
          clear hQ
          cases hbit : s.testBit a
          · rw [hbit] at hbb HTP
            simp only [Bool.false_eq_true, if_false] at hbb
            have HT2 : Hid (topT x s (a + 1) = topT x s a) := by show _ = _; rw [HTP.out]; rfl
            by_cases hO : O = 0
            · have HC2 : Hid (covT x s (a + 1) = true) := by show _ = _; rw [HCT.out, decide_eq_true hO, Bool.or_true]
              subst hO
              go_wp2
              clear hsh hbb hand
              exact ⟨⟨a + 1, by omega, by go_num, by rw [HC2.out]; rfl, by rw [HT2.out]⟩, by simp [intOf]; omega⟩
            · have HC2 : Hid (covT x s (a + 1) = covT x s a) := by show _ = _; rw [HCT.out, decide_eq_false hO, Bool.or_false]
              have hO2 : ((O : Int) == 0) = false := beq_eq_false_iff_ne.2 (fun h => hO (Int.ofNat.inj h))
              go_wp2
              clear hsh hbb hand hO2
              exact ⟨⟨a + 1, by omega, by go_num, by rw [HC2.out], by rw [HT2.out]⟩, by simp [intOf]; omega⟩
          · rw [hbit] at hbb HTP
            simp only [if_true] at hbb
            by_cases hO : O = 0
            · have HC2 : Hid (covT x s (a + 1) = true) := by show _ = _; rw [HCT.out, decide_eq_true hO, Bool.or_true]
              by_cases hOQ : O = Q
              · have HT2 : Hid (topT x s (a + 1) = Q) := by show _ = _; rw [HTP.out, decide_eq_true hOQ]; rfl
                subst hOQ
                subst hO
                go_wp2
                have HSH := Lib.hid hsh
                clear hsh hbb hand
                exact ⟨⟨a + 1, by omega, by go_num, by rw [HC2.out]; rfl, by rw [HT2.out, HSH.out]⟩, by simp [intOf]; omega⟩
              · have HT2 : Hid (topT x s (a + 1) = topT x s a) := by show _ = _; rw [HTP.out, decide_eq_false hOQ]; rfl
                have hne : ((O : Int) == (Q : Int)) = false := beq_eq_false_iff_ne.2 (fun h => hOQ (Int.ofNat.inj h))
                have hO1 : ((O : Int) == 0) = true := by rw [hO]; rfl
                clear hO
                go_wp2
                clear hsh hbb hand hne hO1
                exact ⟨⟨a + 1, by omega, by go_num, by rw [HC2.out]; rfl, by rw [HT2.out]⟩, by simp [intOf]; omega⟩
            · have HC2 : Hid (covT x s (a + 1) = covT x s a) := by show _ = _; rw [HCT.out, decide_eq_false hO, Bool.or_false]
              have hO2 : ((O : Int) == 0) = false := beq_eq_false_iff_ne.2 (fun h => hO (Int.ofNat.inj h))
              by_cases hOQ : O = Q
              · have HT2 : Hid (topT x s (a + 1) = Q) := by show _ = _; rw [HTP.out, decide_eq_true hOQ]; rfl
                subst hOQ
                go_wp2
                have HSH := Lib.hid hsh
                clear hsh hbb hand hO2
                exact ⟨⟨a + 1, by omega, by go_num, by rw [HC2.out], by rw [HT2.out, HSH.out]⟩, by simp [intOf]; omega⟩
              · have HT2 : Hid (topT x s (a + 1) = topT x s a) := by show _ = _; rw [HTP.out, decide_eq_false hOQ]; rfl
                have hne : ((O : Int) == (Q : Int)) = false := beq_eq_false_iff_ne.2 (fun h => hOQ (Int.ofNat.inj h))
                go_wp2
                clear hsh hbb hand hO2 hne
                exact ⟨⟨a + 1, by omega, by go_num, by rw [HC2.out], by rw [HT2.out]⟩, by simp [intOf]; omega⟩
end Go.Proofs.YtoppjohbmalhnaaDoor
