/- Whom a player reaches: both packages' contracts. -/
import Derived.Test.YtofpaekokmkhgaaGreatDoorRcp
import Derived.Test.YtofpaekokmkhgaaGreatDoorMag
import Derived.Test.YtofpaekokmkhgaaGreatDoorMai
import Derived.Test.YtofpaekokmkhgaaGreatDoorMaj
namespace Go.Proofs.YtofpaekokmkhgaaGreatDoor
open Go.ChangeShapes Go.WideShapes Go.ChangeAt Go.RowKit

theorem or_small {a b : Nat} (ha : a < 256) (hb : b < 256) : bits BinOp.or IntKind.i64 (a : Int) (b : Int) = ((a ||| b : Nat) : Int) := (bits_nat .i64 8 (by decide) i64_small a b ha hb).2
/-- The wins of a valid tour, cell by cell. -/
theorem win_cells {w : World} {A : Option Addr} {x : TourV} (hok : tourB x = true) (hs : SlI w A x.wins) : ∃ bk off, A = some ⟨bk, off, none⟩ ∧ bk < w.heap.size ∧ ∀ b, b < x.wins.length → w.cell? ⟨bk, off + b, none⟩ = some (.int .i64 (winN x b : Nat)) := by
  obtain ⟨t1, t2, t3, _, _⟩ := tourB_t hok
  obtain ⟨bk, off, rfl, _, hlt, _, _⟩ := win_at hok hs (show 0 < x.wins.length by omega)
  refine ⟨bk, off, rfl, hlt, fun b hb => ?_⟩
  obtain ⟨b', o', e, c1, _⟩ := win_at hok hs hb
  injection e with e
  injection e with e1 e2
  subst e1; subst e2
  exact c1
theorem Bx.under {w w' : World} {b B : Nat} {x y : Value} (h : Bx w b x y) (hb : Below B w w') (hB : b < B) : Bx w' b x y :=
  ⟨(hb.cell (p := ⟨b, 0, none⟩) hB).trans h.1, (hb.cell (p := ⟨b, 1, none⟩) hB).trans h.2.1, Nat.lt_of_lt_of_le h.2.2 hb.size⟩
theorem pow_wrap8 : ∀ k : Fin 8, wrap64 ((2 : Int) ^ k.val) = ((2 ^ k.val : Nat) : Int) := by decide +kernel
theorem pow_lt8 {a : Nat} (h : a < 8) : wrap64 ((2 : Int) ^ a) = ((2 ^ a : Nat) : Int) := pow_wrap8 ⟨a, h⟩

def orM (x : TourV) (s : Nat) (l : List Int) : Nat := l.foldl (fun (acc : Nat) (b : Int) => acc ||| winN x b.toNat) s
theorem orM_lt {x : TourV} {n : Nat} (hw : ∀ b, winN x b < 2 ^ n) : ∀ (l : List Int) (s : Nat), s < 2 ^ n → orM x s l < 2 ^ n := by
  intro l
  induction l with
  | nil => intro s h; exact h
  | cons y l ih => intro s h; exact ih _ (Nat.or_lt_two_pow h (hw _))
theorem orM_snoc {x : TourV} {s j : Nat} {l : List Int} {y : Int} (h : l[j]? = some y) : orM x s (l.take (j + 1)) = orM x s (l.take j) ||| winN x y.toNat := by
  rw [take_snoc h, orM, List.foldl_append]; rfl

set_option maxHeartbeats 4000000 in
set_option maxRecDepth 100000 in
theorem implReach_any (v : Value) (x : TourV) (a : Nat) (w : World) (hs : InT w v x) (hok : tourB x = true) (ha : a < x.wins.length) :
    Calls Tryz.prog 65 #[v, .int .i64 (a : Int)] w fun e w' => e = .returned (.int .i64 (reachF x a : Nat)) ∧ Below w.heap.size w w' := by
  have HOK := Lib.hid hok
  obtain ⟨u, rfl, A, c, rfl, hc, hm, hsl⟩ := hs
  obtain ⟨t1, t2, t3, _, _⟩ := tourB_t hok
  have hn8 : x.wins.length ≤ 8 := by omega
  obtain ⟨bk, off, rfl, hlt, hcell⟩ := win_cells hok hsl
  have HC := Lib.hid (And.intro hlt hcell)
  have hwn := win_all hok
  have h256 : (2 : Nat) ^ x.wins.length ≤ 256 := Nat.pow_le_pow_right (by omega) hn8
  have HW : Hid (∀ b, winN x b < 2 ^ x.wins.length) := hwn
  have HN : Hid ((2 : Nat) ^ x.wins.length ≤ 256) := h256
  have HP : Hid (2 ^ a < 2 ^ x.wins.length) := Nat.pow_lt_pow_right (by omega) ha
  have hsh := pow_lt8 (a := a) (by omega)
  have ha64 : (a : Int) < 64 := by omega
  obtain ⟨Q, HQ⟩ : ∃ Q : Nat, Hid (2 ^ a = Q) := ⟨_, rfl⟩
  rw [HQ.out] at hsh
  have HR0 : Hid (Q < 2 ^ x.wins.length ∧ 256 ≤ Q + 256 ∧ reachT x 256 Q = reachF x a) := ⟨by rw [← HQ.out]; exact HP.out, Nat.le_add_left _ _, by rw [← HQ.out]; rfl⟩
  have HBX : Hid (Bx (w.alloc (.cells #[.int .i64 x.size, .slice (some ⟨bk, off, none⟩) x.wins.length c] 25)) w.heap.size (.int .i64 x.size) (.slice (some ⟨bk, off, none⟩) x.wins.length c) ∧ Below w.heap.size w (w.alloc (.cells #[.int .i64 x.size, .slice (some ⟨bk, off, none⟩) x.wins.length c] 25))) := ⟨⟨by simp, by simp, by simp⟩, (Below.refl _ w).alloc (Nat.le_refl _) _⟩
  clear hsl hok hcell hwn h256 t1 t2 t3 hm hlt
  go_enter Tryz.func65, Tryz.ntmps65
  go_wp2
  go_loopw [5] (fun v wr => ∃ (s f : Nat), v = .int .i64 (s : Int) ∧ Hid (s < 2 ^ x.wins.length ∧ 256 ≤ s + f ∧ reachT x f s = reachF x a) ∧ Hid (Bx wr w.heap.size (.int .i64 x.size) (.slice (some ⟨bk, off, none⟩) x.wins.length c) ∧ Below w.heap.size w wr)) (fun v _ => 256 - (intOf v).toNat)
  case atStart => exact ⟨Q, 256, by rw [hsh], HR0.out, HBX.out⟩
  case round =>
    obtain ⟨s, f, rfl, HR, HB⟩ := hrel
    obtain ⟨wo, rfl⟩ : ∃ W, W = wr := ⟨wr, rfl⟩
    clear HR0 hsh HBX
    have hs256 : s < 256 := Nat.lt_of_lt_of_le HR.out.1 HN.out
    go_wp2_with (go_at_call 37; refine (membersOf_any s _ hs256).mono ?_; rintro e w3 ⟨v3, rfl, hf, hb⟩; have H3 : Hid (Bx w3 w.heap.size (.int .i64 x.size) (.slice (some ⟨bk, off, none⟩) x.wins.length c) ∧ Below w.heap.size w w3 ∧ InI w3 v3 (memL s)) := ⟨HB.out.1.below hb, HB.out.2.trans (hb.mono HB.out.2.size), hf.in_⟩; obtain ⟨A3, c3, rfl, -⟩ := hf.in_; clear hb hf HB)
    go_loop [6, 15] (fun g i => ∃ (j : Nat), j ≤ (memL s).length ∧ i = .int .i64 j ∧ g = .int .i64 (orM x s ((memL s).take j) : Nat)) (fun _ i => (memL s).length - (intOf i).toNat)
    case atStart => exact ⟨0, Nat.zero_le _, rfl, rfl⟩
    case round =>
      obtain ⟨j, hj, rfl, rfl⟩ := hrel
      have HO : Hid (orM x s ((memL s).take j) < 2 ^ x.wins.length) := orM_lt HW.out _ _ HR.out.1
      have ho256 : orM x s ((memL s).take j) < 256 := Nat.lt_of_lt_of_le HO.out HN.out
      have hjm : (memL s).length ≤ 8 := by rw [memL_len]; exact cntL_le _
      by_cases hlt2 : j < (memL s).length
      case pos =>
        obtain ⟨A4, c4, e4, _, _, hsl4⟩ := H3.out.2.2
        injection e4 with e4 _ e5; subst e4; subst e5
        obtain ⟨b3, o3, y, rfl, ey, qy, _⟩ := hsl4.at_ (k := j) hlt2
        obtain ⟨b, rfl, hb8, hbit⟩ := memT_mem.1 (List.mem_of_getElem? ey)
        have hbn : b < x.wins.length := bit_in HR.out.1 hbit
        have HX := Lib.hid (orM_snoc (x := x) (s := s) ey)
        rw [Int.toNat_natCast] at HX
        have hbl : (b : Int) < x.wins.length := by omega
        have q : w3.cell? ⟨bk, off + b, none⟩ = some (.int .i64 (winN x b : Nat)) := (H3.out.2.1.cell (p := ⟨bk, off + b, none⟩) HC.out.1).trans (HC.out.2 b hbn)
        have hw256 : winN x b < 256 := Nat.lt_of_lt_of_le (HW.out b) HN.out
        have hor := or_small ho256 hw256
        obtain ⟨q0, q1, -⟩ := id H3.out.1
        clear hsl4 ey hbit
        generalize orM x s ((memL s).take j) = G at *
        generalize winN x b = WB at *
        go_wp2
        exact ⟨⟨j + 1, by omega, by go_num, by rw [HX.out]⟩, by simp [intOf]; omega⟩
      case neg =>
        obtain rfl : j = (memL s).length := by omega
        have HS : Hid (orM x s ((memL s).take (memL s).length) = stepR x s) := by show _ = _; rw [List.take_length]; exact orT_mem x s 8
        rw [HS.out] at ho256 HO ⊢
        obtain ⟨S, HSe⟩ : ∃ S, Hid (stepR x s = S) := ⟨_, rfl⟩
        rw [HSe.out] at ho256 HO ⊢
        by_cases he : S = s
        · have HE : Hid (s = reachF x a) := by
            show _ = _
            rw [← HR.out.2.2, reach_fix]
            rw [HSe.out, he]
          subst he
          go_wp2
          go_ret
          exact ⟨by rw [← HE.out]; rfl, H3.out.2.1⟩
        · have hgr : s < S := by
            have := step_grow (x := x) (s := s) (by rw [HSe.out]; exact he)
            rwa [HSe.out] at this
          have hsf := HR.out.2.1
          obtain ⟨f', rfl⟩ : ∃ f', f = f' + 1 := ⟨f - 1, by omega⟩
          have HN2 : Hid (S < 2 ^ x.wins.length ∧ 256 ≤ S + f' ∧ reachT x f' S = reachF x a) := ⟨HO.out, by omega, by rw [← HR.out.2.2, reachT, HSe.out]⟩
          go_wp2
          go_roundw
          case rel => exact ⟨S, f', rfl, HN2.out, H3.out.1, H3.out.2.1⟩
          case measure => simp [intOf]; omega
end Go.Proofs.YtofpaekokmkhgaaGreatDoor
namespace Go.Proofs.YtofpaekokmkhgaaGreatDoor
open Go.ChangeShapes Go.WideShapes Go.ChangeAt Go.RowKit

def scN (x : TourV) (a : Nat) : Nat := cntL (winN x a)
def scoresL (x : TourV) : List Int := (List.range x.wins.length).map (fun a => ((scN x a : Nat) : Int))
theorem scoresL_len (x : TourV) : (scoresL x).length = x.wins.length := by simp [scoresL]
theorem scoresL_at {x : TourV} {a : Nat} (h : a < x.wins.length) : (scoresL x)[a]? = some ((scN x a : Nat) : Int) := by simp [scoresL, h]
theorem scN_le (x : TourV) (a : Nat) : scN x a ≤ 8 := cntL_le _
theorem scoresL_take {x : TourV} {a : Nat} (h : a < x.wins.length) : (scoresL x).take (a + 1) = (scoresL x).take a ++ [((scN x a : Nat) : Int)] := take_snoc (scoresL_at h)
theorem scoresL_all (x : TourV) : (scoresL x).take x.wins.length = scoresL x := List.take_of_length_le (by rw [scoresL_len]; exact Nat.le_refl _)
theorem scoresL_bd {x : TourV} : ∀ y ∈ scoresL x, 0 ≤ y ∧ y ≤ 8 := by
  intro y hy
  simp only [scoresL, List.mem_map, List.mem_range] at hy
  obtain ⟨a, _, rfl⟩ := hy
  have := scN_le x a
  omega

set_option maxHeartbeats 2000000 in
set_option maxRecDepth 100000 in
theorem implScore_any (v : Value) (x : TourV) (a : Nat) (w : World) (hs : InT w v x) (hok : tourB x = true) (ha : a < x.wins.length) :
    Calls Tryz.prog 32 #[v, .int .i64 (a : Int)] w fun e w' => e = .returned (.int .i64 (scN x a : Nat)) ∧ Below w.heap.size w w' := by
  obtain ⟨u, rfl, A, c, rfl, hc, hm, hsl⟩ := hs
  obtain ⟨t1, t2, t3, _, _⟩ := tourB_t hok
  have hn8 : x.wins.length ≤ 8 := by omega
  obtain ⟨b, off, rfl, qc, hlt, hw2, hwb⟩ := win_at hok hsl ha
  have hw256 : winN x a < 256 := Nat.lt_of_lt_of_le hw2 (Nat.pow_le_pow_right (by omega) hn8)
  have HCO := Lib.hid (fun W => onesCount_any _ W hw256)
  have HE : Hid (scN x a = cntL (winN x a)) := rfl
  have hal : (a : Int) < x.wins.length := by omega
  have hne : ¬ b = w.heap.size := by omega
  generalize winN x a = W at *
  obtain ⟨C, hC⟩ : ∃ C, cntL W = C := ⟨_, rfl⟩
  rw [hC] at HCO HE
  clear hC hsl hok hwb hw2
  go_enter Tryz.func32, Tryz.ntmps32
  go_wp2_with (go_at_call 62; refine (HCO.out _).mono ?_; rintro e w' ⟨rfl, rfl⟩)
  go_ret
  exact ⟨by rw [HE.out]; rfl, (Below.refl _ w).alloc (Nat.le_refl _) _⟩

set_option maxHeartbeats 2000000 in
set_option maxRecDepth 100000 in
theorem implScoresOf_any (v : Value) (x : TourV) (w : World) (hs : InT w v x) (hok : tourB x = true) :
    Calls Tryz.prog 11 #[v] w fun e w' => ∃ v', e = .returned v' ∧ Fr w' w.heap.size w'.heap.size v' (scoresL x) ∧ Below w.heap.size w w' := by
  have HIT := Lib.hid hs
  have HOK := Lib.hid hok
  obtain ⟨u, rfl, A, c, rfl, hc, hm, hsl⟩ := hs
  obtain ⟨t1, t2, t3, _, _⟩ := tourB_t hok
  have hn8 : x.wins.length ≤ 8 := by omega
  have HTO : Hid (∀ W, Below w.heap.size w W → Calls Tryz.prog 30 #[.agg #[.int .i64 x.size, .slice A x.wins.length c]] W fun e w' => e = .returned (.bool true) ∧ Below W.heap.size W w') := fun W hW => by
    have h := implTourOk_any _ x W (HIT.out.below hW)
    rwa [HOK.out] at h
  have HSC : Hid (∀ W (a : Nat), Below w.heap.size w W → a < x.wins.length → Calls Tryz.prog 32 #[.agg #[.int .i64 x.size, .slice A x.wins.length c], .int .i64 (a : Int)] W fun e w' => e = .returned (.int .i64 (scN x a : Nat)) ∧ Below W.heap.size W w') := fun W a hW ha => implScore_any _ x a W (HIT.out.below hW) HOK.out ha
  have HSZ : Hid (x.size = (x.wins.length : Int)) := t3.symm
  have HBX : Hid (Bx (w.alloc (.cells #[.int .i64 x.size, .slice A x.wins.length c] 25)) w.heap.size (.int .i64 x.size) (.slice A x.wins.length c) ∧ Below w.heap.size w (w.alloc (.cells #[.int .i64 x.size, .slice A x.wins.length c] 25)) ∧ w.heap.size < (w.alloc (.cells #[.int .i64 x.size, .slice A x.wins.length c] 25)).heap.size) := ⟨⟨by simp, by simp, by simp⟩, (Below.refl _ w).alloc (Nat.le_refl _) _, by simp⟩
  rw [HSZ.out] at HBX HTO HSC
  rw [HSZ.out]
  clear hsl hok t1 t2 t3
  go_enter Tryz.func11, Tryz.ntmps11
  go_wp2_with (go_at_call 30; refine (HTO.out _ HBX.out.2.1).mono ?_; rintro e w0 ⟨rfl, hb⟩; have H0 : Hid (Fr w0 (w.heap.size + 1) w0.heap.size (.slice none 0 0) ((scoresL x).take 0) ∧ Bx w0 w.heap.size (.int .i64 (x.wins.length : Int)) (.slice A x.wins.length c) ∧ Below w.heap.size w w0 ∧ w.heap.size + 1 ≤ w0.heap.size) := (show _ ∧ _ from ⟨by simpa using Fr.nil w0 (lo := w.heap.size + 1) (Nat.le_refl _), HBX.out.1.below hb, HBX.out.2.1.trans (hb.mono (Nat.le_of_lt HBX.out.2.2)), Nat.lt_of_lt_of_le HBX.out.2.2 hb.size⟩); clear hb HBX; obtain ⟨q0, q1, q2⟩ := id H0.out.2.1)
  go_loopw [3, 10] (fun v i wr => ∃ (j : Nat) (vv : Value), j ≤ x.wins.length ∧ i = .int .i64 j ∧ vv = v ∧ Hid (Fr wr (w.heap.size + 1) wr.heap.size vv ((scoresL x).take j) ∧ Bx wr w.heap.size (.int .i64 (x.wins.length : Int)) (.slice A x.wins.length c) ∧ Below w.heap.size w wr ∧ w.heap.size + 1 ≤ wr.heap.size)) (fun _ i _ => x.wins.length - (intOf i).toNat)
  case atStart => exact ⟨0, _, Nat.zero_le _, rfl, rfl, H0.out⟩
  case round =>
    obtain ⟨j, vv, hj, rfl, rfl, HR⟩ := hrel
    clear H0 q0 q1 q2
    by_cases hlt : j < x.wins.length
    case neg =>
      obtain rfl : j = x.wins.length := by omega
      have h := HR.out.1
      rw [scoresL_all] at h
      have HF := Lib.hid h
      clear h
      go_wp2
      go_ret
      exact ⟨_, rfl, HF.out.wide (by omega) (Nat.le_refl _) (Nat.le_refl _), HR.out.2.2.1⟩
    obtain ⟨q0, q1, q2⟩ := id HR.out.2.1
    have HTK := Lib.hid (scoresL_take hlt)
    have HS := Lib.hid (HSC.out wr j HR.out.2.2.1 hlt)
    have HL : Hid (((scoresL x).take j).length = j) := by show _ = _; rw [List.length_take, scoresL_len]; omega
    obtain ⟨C, HC⟩ : ∃ C : Nat, Hid (scN x j = C) := ⟨_, rfl⟩
    rw [HC.out] at HTK HS
    go_wp2_with (first
      | (go_at_call 32; refine HS.out.mono ?_; rintro e w2 ⟨rfl, hb⟩; have H2 : Hid (Fr w2 (w.heap.size + 1) w2.heap.size vv ((scoresL x).take j) ∧ Bx w2 w.heap.size (.int .i64 (x.wins.length : Int)) (.slice A x.wins.length c) ∧ Below w.heap.size w w2 ∧ w.heap.size + 1 ≤ w2.heap.size) := (show _ ∧ _ from ⟨(HR.out.1.grow hb).wide (Nat.le_refl _) hb.size (Nat.le_refl _), HR.out.2.1.below hb, HR.out.2.2.1.trans (hb.mono HR.out.2.2.1.size), Nat.le_trans HR.out.2.2.2 hb.size⟩); clear hb q0 q1 q2)
      | (at_builtin; refine app1 rfl _ _ rfl w2 (w.heap.size + 1) vv j ((scoresL x).take j) rfl (by have h := H2.out.1.1; rw [HL.out] at h; exact h) (C : Int) rfl (by omega) H2.out.2.2.2 ?_; intro v3 w3 hown hb3 _ _; have hB := hb3 _ (Nat.le_refl _) H2.out.2.2.2; have H3 : Hid (Fr w3 (w.heap.size + 1) w3.heap.size v3 ((scoresL x).take (j + 1)) ∧ Bx w3 w.heap.size (.int .i64 (x.wins.length : Int)) (.slice A x.wins.length c) ∧ Below w.heap.size w w3 ∧ w.heap.size + 1 ≤ w3.heap.size) := (show _ ∧ _ from ⟨by rw [HTK.out]; exact Fr.of_own (by rw [List.length_append, HL.out]; exact hown), H2.out.2.1.under hB (Nat.lt_succ_self _), H2.out.2.2.1.trans (hB.mono (Nat.le_succ _)), Nat.le_trans H2.out.2.2.2 hB.size⟩); clear hown hb3 hB))
    go_roundw
    case rel => exact ⟨j + 1, _, by omega, by go_num, rfl, H3.out⟩
    case measure => simp [intOf]; omega
end Go.Proofs.YtofpaekokmkhgaaGreatDoor
