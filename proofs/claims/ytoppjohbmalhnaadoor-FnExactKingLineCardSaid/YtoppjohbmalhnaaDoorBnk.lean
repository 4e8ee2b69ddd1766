/- Banks' set: both packages' contracts. -/
import Derived.Test.YtoppjohbmalhnaaDoorTrs
import Derived.Test.YtoppjohbmalhnaaDoorPrw
namespace Go.Proofs.YtoppjohbmalhnaaDoor
open Go.ChangeShapes Go.WideShapes Go.ChangeAt Go.RowKit

theorem partIn {w : World} {lo hi : Nat} {v : Value} {x : TourV} {s : Nat} (h : Fr w lo hi v (pwL x (memL s))) : InT w (.agg #[.int .i64 ((memL s).length : Int), v]) (partV x s) ∧ ∃ A c, v = .slice A (memL s).length c := by
  obtain ⟨A, c, e, -⟩ := h.form
  exact ⟨⟨v, rfl, h.in_⟩, A, c, by rw [e, pwL_len]⟩

set_option maxHeartbeats 4000000 in
set_option maxRecDepth 100000 in
theorem isTransitiveOn_any (v : Value) (x : TourV) (s : Nat) (w : World) (hs : InT w v x) (hok : tourB x = true) (h0 : s ≠ 0) (hsl : s < 2 ^ x.wins.length) :
    Calls Tryd.prog 36 #[v, .int .i64 (s : Int)] w fun e w' => e = .returned (.bool (transN x s)) ∧ Below w.heap.size w w' := by
  have HIT := Lib.hid hs
  have HOK := Lib.hid hok
  have HPO := Lib.hid (part_ok hok h0 hsl)
  obtain ⟨u, rfl, A, c, rfl, hc, hm, -⟩ := hs
  have HB0 : Hid (Below w.heap.size w (w.alloc (.cells #[.int .i64 x.size, .slice A x.wins.length c] 27))) := (Below.refl _ w).alloc (Nat.le_refl _) _
  have HPT : Hid (∀ W, Below w.heap.size w W → Calls Tryd.prog 46 #[.agg #[.int .i64 x.size, .slice A x.wins.length c], .int .i64 (s : Int)] W fun e w' => ∃ v', e = .returned (.tuple #[.agg #[.int .i64 ((memL s).length : Int), v'], .bool true]) ∧ Fr w' W.heap.size w'.heap.size v' (pwL x (memL s)) ∧ Below W.heap.size W w') := fun W hW => implPartTour_any _ x s W (HIT.out.below hW) HOK.out h0 hsl
  have HTN : Hid (transN x s = decide (partN (partV x s) = (memL s).length)) := rfl
  obtain ⟨P, HP⟩ : ∃ P, Hid (partN (partV x s) = P) := ⟨_, rfl⟩
  rw [HP.out] at HTN
  obtain ⟨k, HK⟩ : ∃ k, Hid ((memL s).length = k) := ⟨_, rfl⟩
  rw [HK.out] at HPT HTN
  clear hsl hok hm
  go_enter Tryd.func36, Tryd.ntmps36
  go_wp2_with (go_at_call 46; refine (HPT.out _ HB0.out).mono ?_; rintro e w1 ⟨v1, rfl, hf, hb⟩; have hin := partIn hf; rw [HK.out] at hin; obtain ⟨hin, A1, c1, rfl⟩ := hin; have H1 := Lib.hid (And.intro hin (HB0.out.trans (hb.mono HB0.out.size))); clear hf hb hin)
  have hal : Below w1.heap.size w1 (w1.alloc (.cells #[.int .i64 (k : Int), .slice A1 k c1] 27)) := (Below.refl _ w1).alloc (Nat.le_refl _) _
  have H2 : Hid (InT (w1.alloc (.cells #[.int .i64 (k : Int), .slice A1 k c1] 27)) (.agg #[.int .i64 (k : Int), .slice A1 k c1]) (partV x s) ∧ Below w.heap.size w (w1.alloc (.cells #[.int .i64 (k : Int), .slice A1 k c1] 27)) ∧ Bx (w1.alloc (.cells #[.int .i64 (k : Int), .slice A1 k c1] 27)) w1.heap.size (.int .i64 (k : Int)) (.slice A1 k c1)) :=
    ⟨H1.out.1.below hal, H1.out.2.trans (hal.mono H1.out.2.size), ⟨by simp, by simp, by simp⟩⟩
  clear hal
  generalize (w1.alloc (.cells #[.int .i64 (k : Int), .slice A1 k c1] 27)) = w2 at *
  generalize w1.heap.size = b5 at *
  obtain ⟨q0, q1, q2⟩ := id H2.out.2.2
  have H3 : Hid (InT w2.drew (.agg #[.int .i64 (k : Int), .slice A1 k c1]) (partV x s) ∧ Below w.heap.size w w2.drew ∧ Bx w2.drew b5 (.int .i64 (k : Int)) (.slice A1 k c1)) := ⟨H2.out.1.below (below_drewL (Below.refl _ _)), below_drewL H2.out.2.1, H2.out.2.2.drew⟩
  go_region_held3 (fun W => W.cell? ⟨b5, 0, none⟩ = some (.int .i64 (k : Int)) ∧ W.cell? ⟨b5, 1, none⟩ = some (.slice A1 k c1)) (first | exact ⟨q0, q1⟩ | exact ⟨H4.out.2.1, H4.out.2.2.1⟩) (first
    | (go_at_call 47; refine (implParts_any _ (partV x s) _ H3.out.1 HPO.out).mono ?_; rintro e w4 ⟨v4, L4, rfl, hf, hl, hb⟩; have H4 : Hid (Below w.heap.size w w4 ∧ Bx w4 b5 (.int .i64 (k : Int)) (.slice A1 k c1)) := (show _ ∧ _ from ⟨H3.out.2.1.trans (hb.mono H3.out.2.1.size), H3.out.2.2.below hb⟩); obtain ⟨A4, c4, rfl, -⟩ := hf.form; rw [hl, HP.out]; clear hf hl hb))
  go_wp2
  go_ret
  exact ⟨ret_bool (by rw [HTN.out]; exact natBeq _ _), H4.out.1⟩

theorem topT_stop {x : TourV} {s n : Nat} (hs : s < 2 ^ n) : ∀ k, n ≤ k → topT x s k = topT x s n := by
  intro k hk
  induction k with
  | zero =>
    obtain rfl : n = 0 := by omega
    rfl
  | succ k ih =>
    rcases Nat.eq_or_lt_of_le hk with rfl | h
    · rfl
    · rw [topT, Nat.testBit_lt_two_pow (Nat.lt_of_lt_of_le hs (Nat.pow_le_pow_right (by omega) (show n ≤ k by omega)))]
      exact ih (by omega)
theorem wrapTi {T : Nat} (h2 : T ≤ 256) : IntKind.i64.wrap (T : Int) = T := by rw [IntKind.wrap_i64]; omega
def cellN (w : World) (v : Value) : Nat := match v with
  | .pointer (some a) => match w.cell? a with
    | some (.int _ k) => k.toNat
    | _ => 0
  | _ => 0
theorem cellN_eq {w : World} {g s : Nat} (h : w.cell? ⟨g, 0, none⟩ = some (.int .i64 (s : Int))) : cellN w (.pointer (some ⟨g, 0, none⟩)) = s := by
  unfold cellN
  simp [h]
theorem bkT_skip {x : TourV} {s : Nat} (h : ¬ (transN x s = true ∧ covT x s x.wins.length = false)) : bkT x (s + 1) = bkT x s := by
  rw [bkT, if_neg (fun h2 => h h2.2)]
theorem bkT_take {x : TourV} {s : Nat} (h0 : s ≠ 0) (h1 : transN x s = true) (h2 : covT x s x.wins.length = false) : bkT x (s + 1) = bkT x s ||| topT x s x.wins.length := by
  rw [bkT, if_pos ⟨h0, h1, h2⟩]

theorem banks1_any (y : Int) (s g : Nat) (W : World) (hg : W.cell? ⟨g, 0, none⟩ = some (.int .i64 (s : Int))) :
    Calls Tryd.prog 38 #[.int .i64 y, .pointer (some ⟨g, 0, none⟩)] W fun e w' => e = .returned (.bool (bits BinOp.and IntKind.i64 y (s : Int) == (s : Int))) ∧ w' = W := by
  go_enter Tryd.func38, Tryd.ntmps38
  go_wp2
  go_ret
  exact ⟨rfl, rfl⟩
/-- The loop over the sets: the cell of the set at hand. -/
structure BkAt (w wr : World) (x : TourV) (A : Option Addr) (c g s : Nat) : Prop where
  cs : wr.cell? ⟨g, 0, none⟩ = some (.int .i64 (s : Int))
  cf : wr.frozen? ⟨g, 0, none⟩ = false
  gl : w.heap.size < g
  gh : g < wr.heap.size
  bx : Bx wr w.heap.size (.int .i64 (x.wins.length : Int)) (.slice A x.wins.length c)
  be : Below w.heap.size w wr
theorem BkAt.below {w wr w2 : World} {x : TourV} {A : Option Addr} {c g s : Nat} (h : BkAt w wr x A c g s) (hb : Below wr.heap.size wr w2) : BkAt w w2 x A c g s := by
  have kz : Keep 0 0 wr w2 := Keep.of_below hb (Nat.le_refl _)
  exact ⟨(hb.cell (p := ⟨g, 0, none⟩) h.gh).trans h.cs, (kz.frozen (p := ⟨g, 0, none⟩) h.gh (.inr (Nat.zero_le _))).trans h.cf, h.gl, Nat.lt_of_lt_of_le h.gh hb.size, h.bx.below hb, h.be.trans (hb.mono h.be.size)⟩
theorem BkAt.fresh {w wr : World} {x : TourV} {A : Option Addr} {c : Nat} (s : Nat) (hbx : Bx wr w.heap.size (.int .i64 (x.wins.length : Int)) (.slice A x.wins.length c)) (hbe : Below w.heap.size w wr) : BkAt w (wr.alloc (.cells #[.int .i64 (s : Int)] 3)) x A c wr.heap.size s := by
  have hal : Below wr.heap.size wr (wr.alloc (.cells #[.int .i64 (s : Int)] 3)) := (Below.refl _ wr).alloc (Nat.le_refl _) _
  exact ⟨by simp, by rw [frozen?_alloc_cells]; simp [World.frozen?], hbx.2.2, by simp, hbx.below hal, hbe.trans (hal.mono hbe.size)⟩
theorem bkTurn {w w4 : World} {x : TourV} {A : Option Addr} {c g s : Nat} (h : BkAt w w4 x A c g s) : BkAt w (w4.alloc (.cells #[.int .i64 ((s : Int) + 1)] 3)) x A c w4.heap.size (s + 1) := BkAt.fresh (s + 1) h.bx h.be
set_option maxHeartbeats 4000000 in
set_option maxRecDepth 100000 in
theorem implBanks_any (v : Value) (x : TourV) (w : World) (hs : InT w v x) (hok : tourB x = true) :
    Calls Tryd.prog 21 #[v] w fun e w' => e = .returned (.int .i64 (banksF x : Nat)) ∧ Below w.heap.size w w' := by
  have HIT := Lib.hid hs
  have HOK := Lib.hid hok
  obtain ⟨u, rfl, A, c, rfl, hc, hm, hsl⟩ := hs
  obtain ⟨t1, t2, t3, _, _⟩ := tourB_t hok
  have hn8 : x.wins.length ≤ 8 := by omega
  have h256 : (2 : Nat) ^ x.wins.length ≤ 256 := Nat.pow_le_pow_right (by omega) hn8
  have hpos : 1 ≤ (2 : Nat) ^ x.wins.length := Nat.one_le_two_pow
  have hT2 : (2 : Int) ^ x.wins.length = ((2 ^ x.wins.length : Nat) : Int) := by rw [Int.natCast_pow]; rfl
  have HSZ : Hid (x.size = (x.wins.length : Int)) := t3.symm
  have HSL := Lib.hid hsl
  have HW : Hid (∀ b, winN x b < 256) := fun b => Nat.lt_of_lt_of_le (win_all hok b) h256
  have HTO : Hid (∀ W, Below w.heap.size w W → Calls Tryd.prog 16 #[.agg #[.int .i64 x.size, .slice A x.wins.length c]] W fun e w' => e = .returned (.bool true) ∧ Below W.heap.size W w') := fun W hW => by
    have h := implTourOk_any _ x W (HIT.out.below hW)
    rwa [HOK.out] at h
  have HTR : Hid (∀ W (s : Nat), Below w.heap.size w W → s ≠ 0 → s < 2 ^ x.wins.length → Calls Tryd.prog 36 #[.agg #[.int .i64 x.size, .slice A x.wins.length c], .int .i64 (s : Int)] W fun e w' => e = .returned (.bool (transN x s)) ∧ Below W.heap.size W w') := fun W s hW h0 h1 => isTransitiveOn_any _ x s W (HIT.out.below hW) HOK.out h0 h1
  have HBF : Hid (banksF x = bkT x (2 ^ x.wins.length)) := rfl
  have HKL : Hid (∀ s : Nat, s ≤ 2 ^ x.wins.length → bkT x s < 2 ^ x.wins.length) := fun s hs => bkT_lt hn8 s hs
  obtain ⟨T, HT⟩ : ∃ T : Nat, Hid (2 ^ x.wins.length = T) := ⟨_, rfl⟩
  rw [HT.out] at h256 hpos hT2 HTR HBF HKL
  have eT := wrapTi h256
  have HET := Lib.hid (And.intro hT2 eT)
  clear hT2 eT
  have HBX : Hid (Bx (w.alloc (.cells #[.int .i64 (x.wins.length : Int), .slice A x.wins.length c] 27)) w.heap.size (.int .i64 (x.wins.length : Int)) (.slice A x.wins.length c) ∧ Below w.heap.size w (w.alloc (.cells #[.int .i64 (x.wins.length : Int), .slice A x.wins.length c] 27))) := ⟨⟨by simp, by simp, by simp⟩, (Below.refl _ w).alloc (Nat.le_refl _) _⟩
  rw [HSZ.out] at HTO HTR
  rw [HSZ.out]
  clear hsl hok t1 t2 t3
  go_enter Tryd.func21, Tryd.ntmps21
  go_wp2_with (go_at_call 16; refine (HTO.out _ HBX.out.2).mono ?_; rintro e w0 ⟨rfl, hb⟩; have H0 : Hid (BkAt w (w0.alloc (.cells #[.int .i64 ((1 : Nat) : Int)] 3)) x A c w0.heap.size 1) := BkAt.fresh 1 (HBX.out.1.below hb) (HBX.out.2.trans (hb.mono HBX.out.2.size)); clear hb HBX)
  go_loopw [3, 4] (fun o p wr => ∃ (s g : Nat), 1 ≤ s ∧ s ≤ T ∧ o = .int .i64 (bkT x s : Nat) ∧ p = .pointer (some ⟨g, 0, none⟩) ∧ Hid (BkAt w wr x A c g s)) (fun _ p wr => T - cellN wr p)
  case atStart => exact ⟨1, _, Nat.le_refl _, hpos, rfl, rfl, H0.out⟩
  case round =>
    obtain ⟨s, g, hs1, hsT, rfl, rfl, HR⟩ := hrel
    obtain ⟨wo, rfl⟩ : ∃ W, W = wr := ⟨wr, rfl⟩
    clear H0
    have hce := cellN_eq HR.out.cs
    have cs := HR.out.cs
    obtain ⟨q0, q1, q2⟩ := id HR.out.bx
    by_cases hlt : s < T
    case neg =>
      obtain rfl : s = T := by omega
      obtain ⟨hT2, eT⟩ := id HET.out
      go_wp2_with fail
      go_quiet (fail)
      go_wp2
      go_ret
      exact ⟨by rw [HBF.out]; rfl, below_drewN HR.out.be _⟩
    have hlti : (s : Int) < (T : Int) := by omega
    obtain ⟨hT2, eT⟩ := id HET.out
    go_wp2_with fail
    go_quiet (fail)
    rename_i nq
    have H1 : Hid (BkAt w (wo.drewN nq) x A c g s) := HR.out.below (below_drewN (Below.refl _ _) _)
    generalize wo.drewN nq = w1 at *
    have HTB := Lib.hid (HTR.out w1 s H1.out.be (by omega) hlt)
    have hs256 : s < 256 := by omega
    clear cs q0 q1 q2 HR hT2 eT
    have cs := H1.out.cs
    obtain ⟨q0, q1, q2⟩ := id H1.out.bx
    have HFI : Hid (∀ w4, BkAt w w4 x A c g s → BkAt w (w4.alloc (.cells #[.int .i64 ((s : Int) + 1)] 3)) x A c w4.heap.size (s + 1)) := fun w4 h4 => bkTurn h4
    have HMS : Hid (∀ w4, BkAt w w4 x A c g s → T - cellN (w4.alloc (.cells #[.int .i64 ((s : Int) + 1)] 3)) (.pointer (some ⟨w4.heap.size, 0, none⟩)) < T - cellN wo (.pointer (some ⟨g, 0, none⟩))) := fun w4 h4 => by rw [cellN_eq (bkTurn h4).cs, hce]; omega
    cases htb : transN x s
    · have HX : Hid (bkT x (s + 1) = bkT x s) := bkT_skip (fun h => by rw [htb] at h; cases h.1)
      rw [htb] at HTB
      clear htb
      go_wp2_with (go_at_call 36; refine HTB.out.mono ?_; rintro e w4 ⟨rfl, hb4⟩; have H4 := Lib.hid (H1.out.below hb4); clear hb4 cs q0 q1 q2; have cs := H4.out.cs; have cf := H4.out.cf)
      exact ⟨⟨s + 1, _, by omega, by omega, by rw [HX.out], rfl, HFI.out _ H4.out⟩, HMS.out _ H4.out⟩
    · have HCA : Hid (∀ a, a < x.wins.length → (fun y : Int => (bits BinOp.and IntKind.i64 y (s : Int) == (s : Int))) ((winN x a : Nat) : Int) = decide (winN x a &&& s = s)) := fun a ha => by
        show (bits BinOp.and IntKind.i64 ((winN x a : Nat) : Int) (s : Int) == (s : Int)) = _
        rw [and_small (HW.out a) hs256]; exact natBeq _ _
      have HCV : Hid (x.wins.any (fun y : Int => (bits BinOp.and IntKind.i64 y (s : Int) == (s : Int))) = covT x s x.wins.length) := by
        have h := any_cov hs256 HW.out (fun y : Int => (bits BinOp.and IntKind.i64 y (s : Int) == (s : Int))) HCA.out (fun a ha => win_get HOK.out ha) x.wins.length (Nat.le_refl _)
        rwa [List.take_of_length_le (Nat.le_refl _)] at h
      have HCF : Hid (∀ w4, BkAt w w4 x A c g s → Calls Tryd.prog 37 #[.slice A x.wins.length c, .func (.func 38) #[] #[.pointer (some ⟨g, 0, none⟩)]] w4 fun e w' => e = .returned (.bool (covT x s x.wins.length)) ∧ ∃ q, w' = w4.drewN q) := fun w4 h4 => by
        have h := containsFuncI_any A c x.wins w4 (SlI.below HSL.out h4.be) (by omega) 38 #[.pointer (some ⟨g, 0, none⟩)] (fun y : Int => (bits BinOp.and IntKind.i64 y (s : Int) == (s : Int))) (fun _ _ => by kernel_rfl) (fun q y => (banks1_any y s g (w4.drewN q) h4.cs).mono (fun e w' hh => ⟨hh.1, q, hh.2⟩))
        rwa [HCV.out] at h
      rw [htb] at HTB
      have HTT := Lib.hid htb
      clear htb
      cases hcv : covT x s x.wins.length
      case true =>
        have HX : Hid (bkT x (s + 1) = bkT x s) := bkT_skip (fun h => by rw [hcv] at h; cases h.2)
        rw [hcv] at HCF
        clear hcv
        go_wp2_with (first
          | (go_at_call 36; refine HTB.out.mono ?_; rintro e w4 ⟨rfl, hb4⟩; have H4 := Lib.hid (H1.out.below hb4); clear hb4 cs q0 q1 q2; have cs := H4.out.cs; obtain ⟨q0, q1, q2⟩ := id H4.out.bx)
          | (go_at_call 37; refine (HCF.out _ H4.out).mono ?_; rintro e w5 ⟨rfl, q5, rfl⟩; have H5 : Hid (BkAt w (w4.drewN q5) x A c g s) := H4.out.below (below_drewN (Below.refl _ _) _); generalize w4.drewN q5 = w5 at *; clear cs q0 q1 q2; have cs := H5.out.cs))
        exact ⟨⟨s + 1, _, by omega, by omega, by rw [HX.out], rfl, HFI.out _ H5.out⟩, HMS.out _ H5.out⟩
      case false =>
        have HX : Hid (bkT x (s + 1) = bkT x s ||| topT x s x.wins.length) := bkT_take (by omega) HTT.out hcv
        rw [hcv] at HCF
        clear hcv
        go_wp2_with (first
          | (go_at_call 36; refine HTB.out.mono ?_; rintro e w4 ⟨rfl, hb4⟩; have H4 := Lib.hid (H1.out.below hb4); clear hb4 cs q0 q1 q2; have cs := H4.out.cs; obtain ⟨q0, q1, q2⟩ := id H4.out.bx)
          | (go_at_call 37; refine (HCF.out _ H4.out).mono ?_; rintro e w5 ⟨rfl, q5, rfl⟩; have H5 : Hid (BkAt w (w4.drewN q5) x A c g s) := H4.out.below (below_drewN (Below.refl _ _) _); generalize w4.drewN q5 = w5 at *; clear cs q0 q1 q2; have cs := H5.out.cs)
          | (go_at_call 19; refine (membersOf_any s _ hs256).mono ?_; rintro e w6 ⟨v6, rfl, hf, hb⟩; have H6 : Hid (BkAt w w6 x A c g s ∧ InI w6 v6 (memL s)) := ⟨H5.out.below hb, hf.in_⟩; obtain ⟨A6, c6, rfl, -⟩ := hf.in_; clear hb hf cs))
        have hbk := HKL.out s (Nat.le_of_lt hlt)
        have HBE : Hid (tpM x s (memL s) (bkT x s) = bkT x (s + 1)) := by
          show _ = _
          rw [HX.out, memL, tpM_top HOK.out (by rw [HT.out]; exact hlt), topT_stop (n := x.wins.length) (by rw [HT.out]; exact hlt) 8 hn8]
        have HLT8 : Hid (∀ j, tpM x s ((memL s).take j) (bkT x s) < 256) := fun j => tpM_lt (n := 8) (fun y hy => by
          obtain ⟨a, rfl, ha, _⟩ := memT_mem.1 (List.mem_of_mem_take hy)
          rw [Int.toNat_natCast]; exact ha) _ (by show _ < 256; omega)
        clear hbk HX
        go_loopw [3, 30] (fun o i wr => ∃ (j : Nat), j ≤ (memL s).length ∧ i = .int .i64 j ∧ o = .int .i64 (tpM x s ((memL s).take j) (bkT x s) : Nat) ∧ Hid (BkAt w wr x A c g s ∧ InI wr (.slice A6 (memL s).length c6) (memL s))) (fun _ i _ => (memL s).length - (intOf i).toNat)
        case atStart => exact ⟨0, Nat.zero_le _, rfl, rfl, H6.out⟩
        case round =>
          obtain ⟨j, hj, rfl, rfl, HI⟩ := hrel
          clear H6
          by_cases hlt2 : j < (memL s).length
          case neg =>
            obtain rfl : j = (memL s).length := by omega
            have HE : Hid (tpM x s ((memL s).take (memL s).length) (bkT x s) = bkT x (s + 1)) := by show _ = _; rw [List.take_length, HBE.out]
            have cs := HI.out.1.cs
            go_wp2
            exact ⟨⟨s + 1, _, by omega, by omega, by rw [HE.out], rfl, HFI.out _ HI.out.1⟩, HMS.out _ HI.out.1⟩
          obtain ⟨A4, c4, e4, _, _, hsl4⟩ := HI.out.2
          injection e4 with e4 _ e5; subst e4; subst e5
          obtain ⟨b3, o3, y, rfl, ey, qy, _⟩ := hsl4.at_ (k := j) hlt2
          obtain ⟨a, rfl, ha8, hbit⟩ := memT_mem.1 (List.mem_of_getElem? ey)
          have han : a < x.wins.length := bit_in (by rw [HT.out]; exact hlt) hbit
          have HX := Lib.hid (tpM_snoc (x := x) (s := s) (o := bkT x s) ey)
          rw [Int.toNat_natCast] at HX
          obtain ⟨bk, off, rfl, hlk, hcell⟩ := win_cells HOK.out HSL.out
          have qw : wr.cell? ⟨bk, off + a, none⟩ = some (.int .i64 (winN x a : Nat)) := (HI.out.1.be.cell (p := ⟨bk, off + a, none⟩) hlk).trans (hcell a han)
          have hQ256 : 2 ^ a < 256 := by
            have h : ∀ a : Fin 8, 2 ^ a.val < 256 := by decide
            exact h ⟨a, ha8⟩
          have hand := andNot_small hs256 (HW.out a)
          have hor := or_small (HLT8.out j) hQ256
          have hjm : (memL s).length ≤ 8 := by rw [memL_len]; exact cntL_le _
          have ha64 : (a : Int) < 64 := by omega
          have hal : (a : Int) < x.wins.length := by omega
          have cs := HI.out.1.cs
          obtain ⟨q0, q1, q2⟩ := id HI.out.1.bx
          have hsh : IntKind.i64.wrap ((2 : Int) ^ a) = ((2 ^ a : Nat) : Int) := by
            have h : ∀ k : Fin 8, IntKind.i64.wrap ((2 : Int) ^ k.val) = ((2 ^ k.val : Nat) : Int) := by decide +kernel
            exact h ⟨a, ha8⟩
          have hsh2 := pow_lt8 ha8
          have hOE : s &&& (255 ^^^ winN x a) = outN x s a := rfl
          rw [hOE] at hand
          have hG : Hid (∀ q, BkAt w (wr.drewN q) x (some ⟨bk, off, none⟩) c g s ∧ InI (wr.drewN q) (.slice (some ⟨b3, o3, none⟩) (memL s).length c6) (memL s)) := fun q => ⟨HI.out.1.below (below_drewN (Below.refl _ _) _), HI.out.2.drewN q⟩
          clear hOE hsl4 ey hbit hcell hlk
          obtain ⟨Q, hQ⟩ : ∃ Q : Nat, 2 ^ a = Q := ⟨_, rfl⟩
          rw [hQ] at HX hor hsh hsh2 hQ256
          generalize outN x s a = O at *
          generalize tpM x s ((memL s).take j) (bkT x s) = G at *
          clear hQ
          by_cases hc : O = Q
          · have HX2 : Hid (tpM x s ((memL s).take (j + 1)) (bkT x s) = G ||| Q) := by show _ = _; rw [HX.out, if_pos hc]
            subst hc
            go_wp2_with fail
            go_quiet (fail)
            go_wp2
            clear hsh hsh2 hor hand
            exact ⟨⟨j + 1, by omega, by go_num, by rw [HX2.out], hG.out _⟩, by simp [intOf]; omega⟩
          · have HX2 : Hid (tpM x s ((memL s).take (j + 1)) (bkT x s) = G) := by show _ = _; rw [HX.out, if_neg hc]
            have hne : ((O : Int) == (Q : Int)) = false := beq_eq_false_iff_ne.2 (fun h => hc (Int.ofNat.inj h))
            go_wp2_with fail
            go_quiet (fail)
            go_wp2
            clear hsh hsh2 hor hand hne
            exact ⟨⟨j + 1, by omega, by go_num, by rw [HX2.out], hG.out _⟩, by simp [intOf]; omega⟩
end Go.Proofs.YtoppjohbmalhnaaDoor
