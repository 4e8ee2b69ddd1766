/- A row without a column: the reference's. -/
import Derived.Test.YtklhplifceedeaaDoorSkb
namespace Go.Proofs.YtklhplifceedeaaDoor
open Go.ChangeShapes Go.WideShapes Go.ChangeAt Go.RowKit

theorem rawL_get {a b : List Int} {c n i : Nat} (ha : a.length = n) (hb : b.length = n) (hi : i < n) : (rawL a b c)[i]? = some (fn a i * fn b c - fn b i * fn a c) := by
  have h1 : i < a.length := by omega
  have h2 : i < b.length := by omega
  unfold rawL fn
  rw [List.getElem?_zipWith, List.getElem?_eq_getElem h1, List.getElem?_eq_getElem h2]
  simp [List.getD_eq_getElem?_getD, List.getElem?_eq_getElem h1, List.getElem?_eq_getElem h2]
/-- What the second loop has made of the first i numbers. -/
def redI (R : List Int) (i : Nat) : List Int := if 1 < gcdL R then (R.take i).map (fun x => x.tdiv (gcdL R : Int)) ++ R.drop i else R
theorem gcdI_bd {l : List Int} {B : Nat} (h : ∀ x ∈ l, x.natAbs ≤ B) : ∀ i, gcdI l i ≤ B
  | 0 => by simp [gcdI]
  | i + 1 => by
    by_cases hi : i < l.length
    · have ih := gcdI_bd h i
      rw [gcdI_succ (List.getElem?_eq_getElem hi)]
      have h1 := h l[i] (List.getElem_mem _)
      by_cases h0 : gcdI l i = 0
      · rw [h0, Nat.gcd_zero_left]; exact h1
      · exact Nat.le_trans (Nat.gcd_le_left _ (by omega)) ih
    · have e : gcdI l (i + 1) = gcdI l i := by unfold gcdI; rw [List.take_of_length_le (by omega), List.take_of_length_le (by omega)]
      rw [e]; exact gcdI_bd h i
theorem redI_zero (R : List Int) : redI R 0 = R := by unfold redI; split <;> simp
theorem redI_all (a b : List Int) (c : Nat) : redI (rawL a b c) (rawL a b c).length = redL a b c := by
  unfold redI redL
  split <;> simp
theorem redI_same {R : List Int} {i : Nat} (hg : ¬ 1 < gcdL R) : redI R i = R := by unfold redI; rw [if_neg hg]
theorem redI_length (R : List Int) (i : Nat) : (redI R i).length = R.length := by
  unfold redI
  split
  · rw [List.length_append, List.length_map, List.length_take, List.length_drop]; omega
  · rfl
theorem redI_step {R : List Int} {i : Nat} {y : Int} (hg : 1 < gcdL R) (h : R[i]? = some y) : (redI R i)[i]? = some y ∧ redI R (i + 1) = (redI R i).set i (y.tdiv (gcdL R : Int)) := by
  obtain ⟨hi, rfl⟩ := List.getElem?_eq_some_iff.1 h
  have hl : ((R.take i).map (fun x => x.tdiv (gcdL R : Int))).length = i := by rw [List.length_map, List.length_take]; omega
  have e1 : redI R i = (R.take i).map (fun x => x.tdiv (gcdL R : Int)) ++ R[i] :: R.drop (i + 1) := by unfold redI; rw [if_pos hg, List.drop_eq_getElem_cons hi]
  have e2 : redI R (i + 1) = (R.take i).map (fun x => x.tdiv (gcdL R : Int)) ++ R[i].tdiv (gcdL R : Int) :: R.drop (i + 1) := by
    unfold redI
    rw [if_pos hg, take_snoc h, List.map_append, List.append_assoc]; rfl
  rw [e1, e2]
  constructor
  · rw [List.getElem?_append_right (by omega), hl, Nat.sub_self]; rfl
  · rw [List.set_append_right i _ (by omega), hl, Nat.sub_self]; rfl
set_option maxHeartbeats 4000000 in
set_option maxRecDepth 100000 in
theorem l10Reduce_any (A B : Option Addr) (ca cb : Nat) (xs ys : List Int) (n k : Nat) (w : World) (ha : SlI w A xs) (hb : SlI w B ys) (hxl : xs.length = n) (hyl : ys.length = n) (hk : k < n) (hn : n ≤ 100)
    (hs : ∀ i, i < n → (fn xs i * fn ys k).natAbs ≤ 1099511627776 ∧ (fn ys i * fn xs k).natAbs ≤ 1099511627776) :
    Calls Tryd.prog 32 #[.slice A n ca, .slice B n cb, .int .i64 (k : Int)] w fun e w' => ∃ v', e = .returned v' ∧ Fr w' w.heap.size w'.heap.size v' (redL xs ys k) ∧ Below w.heap.size w w' := by
  have HA := Lib.hid ha
  have HB := Lib.hid hb
  have HXL := Lib.hid hxl
  have HYL := Lib.hid hyl
  have HSM := Lib.hid hs
  have HRG := Lib.hid (fun i hi => rawL_get (c := k) hxl hyl (i := i) hi)
  have HRL := Lib.hid (rawL_length (c := k) hxl hyl)
  have HGB : Hid (∀ i, gcdI (rawL xs ys k) i ≤ 4398046511104) := gcdI_bd (fun x hx => by
    obtain ⟨i, hi⟩ := List.getElem?_of_mem hx
    have hin : i < n := by have := (List.getElem?_eq_some_iff.1 hi).1; rw [HRL.out] at this; exact this
    have h1 := HRG.out i hin
    have h2 := HSM.out i hin
    rw [hi] at h1
    injection h1 with h1
    omega)
  clear ha hb hxl hyl hs
  have H0 : Hid (Fr (w.alloc (.cells #[] 3)) w.heap.size (w.alloc (.cells #[] 3)).heap.size (.slice (some ⟨w.heap.size, 0, none⟩) 0 0) ((rawL xs ys k).take 0) ∧ Below w.heap.size w (w.alloc (.cells #[] 3))) := ⟨Fr.of_own (World.ownsRow_made w #[] 0 (Nat.le_refl _) (by unfold maxLen; omega) rfl), (Below.refl _ w).alloc (Nat.le_refl _) _⟩
  go_enter Tryd.func32, Tryd.ntmps32
  go_wp2
  go_loopw [7, 8, 15] (fun o g i wr => ∃ (q : Nat) (vv : Value), q ≤ n ∧ i = .int .i64 (q : Int) ∧ g = .int .i64 (gcdI (rawL xs ys k) q : Nat) ∧ vv = o ∧ Hid (Fr wr w.heap.size wr.heap.size vv ((rawL xs ys k).take q) ∧ Below w.heap.size w wr)) (fun _ _ i _ => n - (intOf i).toNat)
  case atStart => exact ⟨0, _, Nat.zero_le _, rfl, rfl, rfl, H0.out⟩
  case round =>
    obtain ⟨q, vv, hq, rfl, rfl, rfl, HR⟩ := hrel
    by_cases hlt : q < n
    case neg =>
      obtain rfl : q = n := by omega
      have HGA : Hid (((gcdI (rawL xs ys k) q : Nat) : Int) = (gcdL (rawL xs ys k) : Int)) := by show _ = _; rw [← HRL.out, gcdI_all]
      rw [HGA.out]
      have HR0 : Hid (Fr wr w.heap.size wr.heap.size vv (redI (rawL xs ys k) 0) ∧ Below w.heap.size w wr) := by
        have := HR.out
        rw [List.take_of_length_le (by rw [HRL.out]; exact Nat.le_refl _)] at this
        show _ ∧ _
        rw [redI_zero]; exact this
      have HEND : Hid (redI (rawL xs ys k) q = redL xs ys k) := by show _ = _; rw [← redI_all, HRL.out]
      have HRB : Hid (∀ r, r < q → ∃ y, (rawL xs ys k)[r]? = some y ∧ y.natAbs ≤ 2199023255552) := fun r hr => ⟨_, HRG.out r hr, by have := HSM.out r hr; omega⟩
      have HLEN : Hid (∀ r, (redI (rawL xs ys k) r).length = q) := fun r => (redI_length _ _).trans HRL.out
      generalize hRR : rawL xs ys k = R at *
      clear HR HRL HRG HSM hRR HA HB HXL HYL H0 HGA
      obtain ⟨A0, c0, rfl, hc0, hc1⟩ := HR0.out.1.form
      have hL0 := HLEN.out 0
      rw [hL0] at HR0 ⊢
      by_cases hg : 1 < gcdL R
      · have g1 : (1 : Int) < ((gcdL R : Nat) : Int) := by omega
        have g2 : ¬ (((gcdL R : Nat) : Int) = 0) := by omega
        have g3 : (((gcdL R : Nat) : Int) == 0) = false := by simpa using g2
        have HGG := Lib.hid hg
        clear hL0 hc0 hc1 hg
        go_wp2
        go_loopw [11, 50] (fun _ i W => ∃ r : Nat, r ≤ q ∧ i = .int .i64 (r : Int) ∧ Hid (Fr W w.heap.size W.heap.size (.slice A0 q c0) (redI R r) ∧ Below w.heap.size w W)) (fun _ i _ => q - (intOf i).toNat)
        case atStart => exact ⟨0, Nat.zero_le _, rfl, HR0.out⟩
        case round =>
          obtain ⟨r, hr, rfl, HR⟩ := hrel
          obtain ⟨wo, rfl⟩ : ∃ W, W = wr := ⟨wr, rfl⟩
          by_cases hlt2 : r < q
          · obtain ⟨y, hy, hyb⟩ := HRB.out r hlt2
            obtain ⟨e1, e2⟩ := redI_step HGG.out hy
            obtain ⟨g, z, rfl, hlo, hhi, hz, hcz, hfz, hset⟩ := HR.out.1.at_ (k := r) (by rw [HLEN.out r]; exact hlt2)
            obtain rfl : z = y := by rw [e1] at hz; injection hz with hz; exact hz.symm
            have HST := Lib.hid (hset (z.tdiv (gcdL R : Int)))
            have HE2 := Lib.hid e2
            have hzb : (z.tdiv (gcdL R : Int)).natAbs ≤ 2199023255552 := by rw [Int.natAbs_tdiv]; exact Nat.le_trans (Nat.div_le_self _ _) hyb
            clear hset hz hy e1 e2
            obtain ⟨Z, hZ⟩ : ∃ Z, z.tdiv (gcdL R : Int) = Z := ⟨_, rfl⟩
            rw [hZ] at HST HE2 hzb
            have w4 : IntKind.i64.wrap Z = Z := by rw [IntKind.wrap_i64]; omega
            have w5 : wrap64 Z = Z := by unfold wrap64; omega
            have H2 : Hid (Fr (wo.setCell ⟨g, r, none⟩ (.int .i64 Z)) w.heap.size (wo.setCell ⟨g, r, none⟩ (.int .i64 Z)).heap.size (.slice (some ⟨g, 0, none⟩) q c0) (redI R (r + 1)) ∧ Below w.heap.size w (wo.setCell ⟨g, r, none⟩ (.int .i64 Z))) := by
              have h1 := HST.out
              rw [← HE2.out] at h1
              exact ⟨h1.1.wide (Nat.le_refl _) h1.2.size (Nat.le_refl _), HR.out.2.trans (h1.2.below (Nat.le_refl _) HR.out.2.size)⟩
            go_wp2
            go_roundw
            case rel => exact ⟨r + 1, by omega, by go_num, H2.out⟩
            case measure => simp [intOf]; omega
          · obtain rfl : r = q := by omega
            have HF : Hid (Fr wo w.heap.size wo.heap.size (.slice A0 r c0) (redL xs ys k) ∧ Below w.heap.size w wo) := by rw [← HEND.out]; exact HR.out
            go_wp2
            go_ret
            exact ⟨_, rfl, HF.out⟩
      · have g1 : ¬ (1 : Int) < ((gcdL R : Nat) : Int) := by omega
        have HGS : Hid (∀ r, redI R r = R) := fun r => redI_same hg
        have H00 : Hid (Fr wr w.heap.size wr.heap.size (.slice A0 q c0) R ∧ Below w.heap.size w wr) := by have := HR0.out; rw [HGS.out] at this; exact this
        have HEN2 : Hid (R = redL xs ys k) := by show _ = _; rw [← HEND.out, HGS.out]
        have hgd : decide ((1 : Int) < ((gcdL R : Nat) : Int)) = false := by simpa using g1
        clear hL0 hc0 hc1 hg HR0 HEND HRB HLEN
        go_wp2
        go_loopw [11, 50] (fun _ i W => ∃ r : Nat, r ≤ q ∧ i = .int .i64 (r : Int) ∧ W = wr) (fun _ i _ => q - (intOf i).toNat)
        case atStart => exact ⟨0, Nat.zero_le _, rfl, rfl⟩
        case round =>
          obtain ⟨r, hr, rfl, rfl⟩ := hrel
          by_cases hlt2 : r < q
          · go_wp2
            go_roundw
            case rel => exact ⟨r + 1, by omega, by go_num, trivial⟩
            case measure => simp [intOf]; omega
          · obtain rfl : r = q := by omega
            have HF : Hid (Fr wr w.heap.size wr.heap.size (.slice A0 r c0) (redL xs ys k) ∧ Below w.heap.size w wr) := by rw [← HEN2.out]; exact H00.out
            go_wp2
            go_ret
            exact ⟨_, rfl, HF.out⟩
    obtain ⟨bx, ox, x1, rfl, hx1, cx1, hxb⟩ := (SlI.below HA.out HR.out.2).at_ (k := q) (by rw [HXL.out]; exact hlt)
    obtain ⟨bx', ox', x2, e, hx2, cx2, hxb2⟩ := (SlI.below HA.out HR.out.2).at_ (k := k) (by rw [HXL.out]; exact hk)
    injection e with e; injection e with e1 e2; subst e1; subst e2
    obtain ⟨by', oy, y1, rfl, hy1, cy1, hyb⟩ := (SlI.below HB.out HR.out.2).at_ (k := q) (by rw [HYL.out]; exact hlt)
    obtain ⟨by2, oy2, y2, e, hy2, cy2, hyb2⟩ := (SlI.below HB.out HR.out.2).at_ (k := k) (by rw [HYL.out]; exact hk)
    injection e with e; injection e with e1 e2; subst e1; subst e2
    have gg : ∀ {l : List Int} {i : Nat} {y : Int}, l[i]? = some y → fn l i = y := fun h => by unfold fn; rw [List.getD_eq_getElem?_getD, h]; rfl
    have hsm := HSM.out q hlt
    have hrg := HRG.out q hlt
    rw [gg hx1, gg hx2, gg hy1, gg hy2] at hrg
    rw [gg hx1, gg hx2, gg hy1, gg hy2] at hsm
    obtain ⟨P1, hP1⟩ : ∃ P, x1 * y2 = P := ⟨_, rfl⟩
    obtain ⟨P2, hP2⟩ : ∃ P, y1 * x2 = P := ⟨_, rfl⟩
    rw [hP1, hP2] at hrg hsm
    have w1 : IntKind.i64.wrap P1 = P1 := by rw [IntKind.wrap_i64]; omega
    have w2 : IntKind.i64.wrap P2 = P2 := by rw [IntKind.wrap_i64]; omega
    have w3 : IntKind.i64.wrap (P1 - P2) = P1 - P2 := by rw [IntKind.wrap_i64]; omega
    have HT : Hid ((rawL xs ys k).take (q + 1) = (rawL xs ys k).take q ++ [P1 - P2]) := take_snoc hrg
    have HGN : Hid (gcdI (rawL xs ys k) (q + 1) = Nat.gcd (gcdI (rawL xs ys k) q) (P1 - P2).natAbs) := gcdI_succ hrg
    clear hx1 hx2 hy1 hy2 gg hrg H0
    go_wp2
    go_quiet (fail)
    have HW : Hid (Fr (wr.drewN nq) w.heap.size (wr.drewN nq).heap.size vv ((rawL xs ys k).take q) ∧ Below w.heap.size w (wr.drewN nq)) := ⟨HR.out.1.drewN nq, HR.out.2.trans (below_of_drewN _ _ _)⟩
    have HTL : Hid (((rawL xs ys k).take q).length = q) := by show _ = _; rw [List.length_take, HRL.out]; omega
    generalize wr.drewN nq = wd at *
    have hDb : (P1 - P2).natAbs ≤ 2199023255552 := by omega
    clear w1 w2 w3 hP1 hP2 hsm cx1 cx2 cy1 cy2
    generalize P1 - P2 = D at *
    have hng : IntKind.i64.wrap (-D) = -D := by rw [IntKind.wrap_i64]; omega
    obtain ⟨M, hM⟩ : ∃ M : Nat, D.natAbs = M := ⟨_, rfl⟩
    rw [hM] at hDb HGN
    have HGC : Hid (∀ V, Calls Tryd.prog 33 #[.int .i64 ((gcdI (rawL xs ys k) q : Nat) : Int), .int .i64 (M : Int)] V fun e w' => e = .returned (.int .i64 (Nat.gcd (gcdI (rawL xs ys k) q) M : Nat)) ∧ V = w') := fun V => l10Gcd_any _ M V (HGB.out q) (by omega)
    have HOW := HW.out.1.own
    rw [HTL.out] at HOW
    by_cases hD : -D > D
    · have hMe : -D = (M : Int) := by omega
      go_wp2_with (first
        | (at_builtin; refine app1 rfl _ _ rfl wd w.heap.size vv q ((rawL xs ys k).take q) rfl HOW D rfl (by omega) HW.out.2.size ?_; intro v2 w2 hown hb2 _ _; have H2 : Hid (Fr w2 w.heap.size w2.heap.size v2 ((rawL xs ys k).take (q + 1)) ∧ Below w.heap.size w w2) := ⟨by rw [HT.out]; exact Fr.of_own (by rw [List.length_append, HTL.out]; exact hown), HW.out.2.trans (hb2 _ (Nat.le_refl _) HW.out.2.size)⟩; clear hown hb2)
        | (go_at_call 33; refine (HGC.out _).mono ?_; rintro e w5 ⟨rfl, rfl⟩))
      go_roundw
      case rel => exact ⟨q + 1, _, by omega, by go_num, by rw [HGN.out], rfl, H2.out⟩
      case measure => simp [intOf]; omega
    · have hMe : D = (M : Int) := by omega
      rw [← hMe] at HGC
      clear hMe
      go_wp2_with (first
        | (at_builtin; refine app1 rfl _ _ rfl wd w.heap.size vv q ((rawL xs ys k).take q) rfl HOW D rfl (by omega) HW.out.2.size ?_; intro v2 w2 hown hb2 _ _; have H2 : Hid (Fr w2 w.heap.size w2.heap.size v2 ((rawL xs ys k).take (q + 1)) ∧ Below w.heap.size w w2) := ⟨by rw [HT.out]; exact Fr.of_own (by rw [List.length_append, HTL.out]; exact hown), HW.out.2.trans (hb2 _ (Nat.le_refl _) HW.out.2.size)⟩; clear hown hb2)
        | (go_at_call 33; refine (HGC.out _).mono ?_; rintro e w5 ⟨rfl, rfl⟩))
      go_roundw
      case rel => exact ⟨q + 1, _, by omega, by go_num, by rw [HGN.out], rfl, H2.out⟩
      case measure => simp [intOf]; omega
end Go.Proofs.YtklhplifceedeaaDoor
