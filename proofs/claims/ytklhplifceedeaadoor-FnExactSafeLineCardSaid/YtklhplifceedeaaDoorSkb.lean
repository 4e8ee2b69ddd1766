/- The balance of a player against weights; numbers in lowest terms: the program's. -/
import Derived.Test.YtklhplifceedeaaDoorSkf
namespace Go.Proofs.YtklhplifceedeaaDoor
open Go.ChangeShapes Go.WideShapes Go.ChangeAt Go.RowKit

/-- The balance of the player b over the first i weights. -/
def balF (B : Nat → Nat → Bool) (ws : List Int) (b i : Nat) : Int := smN (fun a => Mb B a b * fn ws a) i
theorem balF_succ (B : Nat → Nat → Bool) (ws : List Int) (b i : Nat) : balF B ws b (i + 1) = balF B ws b i + Mb B i b * fn ws i := rfl
theorem balF_abs {B : Nat → Nat → Bool} {ws : List Int} {b : Nat} (h : ∀ w ∈ ws, 0 ≤ w ∧ w ≤ 100000) : ∀ i, i ≤ ws.length → (balF B ws b i).natAbs ≤ i * 100000
  | 0, _ => by simp [balF, smN]
  | i + 1, hi => by
    have ih := balF_abs (B := B) (b := b) h i (by omega)
    have h1 := h _ (fn_mem (l := ws) (j := i) (by omega))
    have h2 : (Mb B i b * fn ws i).natAbs ≤ 1 * 100000 := by
      rw [Int.natAbs_mul]
      exact Nat.mul_le_mul (Mb_abs B i b) (by omega)
    rw [balF_succ]
    omega

set_option maxHeartbeats 2000000 in
set_option maxRecDepth 100000 in
theorem balance_any (v : Value) (x : TourV) (A : Option Addr) (c : Nat) (ws : List Int) (b : Nat) (w : World) (hok : tourB x = true) (hs : InT w v x) (hw : SlI w A ws) (hn : ws.length = x.wins.length) (hb : b < x.wins.length) (hr : ∀ y ∈ ws, 0 ≤ y ∧ y ≤ 100000) :
    Calls Tryd.prog 43 #[v, .slice A ws.length c, .int .i64 (b : Int)] w fun e w' => e = .returned (.int .i64 (balF (bt x.wins) ws b x.wins.length)) ∧ Below w.heap.size w w' := by
  have HIT := Lib.hid hs
  have HW := Lib.hid hw
  obtain ⟨u, rfl, B, d, rfl, hd, hm, hts⟩ := hs
  obtain ⟨t1, t2, t3, t4, _⟩ := tourB_t hok
  have hn8 : x.wins.length ≤ 8 := by omega
  have HBD : Hid (∀ i, i ≤ x.wins.length → (balF (bt x.wins) ws b i).natAbs ≤ i * 100000) := fun i hi => balF_abs hr i (by omega)
  have HOK := Lib.hid hok
  have HWB := Lib.hid t4
  have HTS := Lib.hid hts
  have HRG := Lib.hid hr
  obtain ⟨bb, ob, y, rfl, hy, cy, hlt⟩ := hts.at_ hb
  obtain ⟨h1, h2⟩ := winsB_at hn8 t4 hy
  rw [hn]
  have HBY : Hid (∀ a, bt x.wins b a = y.toNat.testBit a) := fun a => by rw [bt, List.getD_eq_getElem?_getD, hy]; rfl
  have HNL := Lib.hid hn
  clear hts hw hn t4 hok hr hy
  go_enter Tryd.func43, Tryd.ntmps43
  go_wp2
  go_loopw [7, 12] (fun s i wr => ∃ q : Nat, q ≤ x.wins.length ∧ i = .int .i64 (q : Int) ∧ s = .int .i64 (balF (bt x.wins) ws b q) ∧ wr = w.alloc (.cells #[.int .i64 x.size, .slice (some ⟨bb, ob, none⟩) x.wins.length d] 27)) (fun _ i _ => x.wins.length - (intOf i).toNat)
  case atStart => exact ⟨0, Nat.zero_le _, rfl, rfl, rfl⟩
  case round =>
    obtain ⟨q, hq, rfl, rfl, rfl⟩ := hrel
    by_cases hql : q < x.wins.length
    case neg =>
      obtain rfl : q = x.wins.length := by omega
      go_wp2
      go_ret
      exact ⟨rfl, (Below.refl _ w).alloc (Nat.le_refl _) _⟩
    obtain ⟨bw, ow, u0, rfl, hu, cu, hltu⟩ := HW.out.at_ (k := q) (by rw [HNL.out]; exact hql)
    obtain ⟨bb', ob', z, e, hz, cz, hltz⟩ := HTS.out.at_ hql
    injection e with e; injection e with e1 e2; subst e1; subst e2
    obtain ⟨g1, g2⟩ := HRG.out u0 (List.mem_of_getElem? hu)
    obtain ⟨z1, z2⟩ := winsB_at hn8 HWB.out hz
    have HBZ : Hid (bt x.wins q b = z.toNat.testBit b) := by show _ = _; rw [bt, List.getD_eq_getElem?_getD, hz]; rfl
    have bz := bit_at z1 z2 (show b ≤ 7 by omega)
    have by_ := bit_at h1 h2 (show q ≤ 7 by omega)
    rw [← HBZ.out] at bz
    rw [← HBY.out q] at by_
    have hsc := balF_succ (bt x.wins) ws b q
    rw [show fn ws q = u0 by unfold fn; rw [List.getD_eq_getElem?_getD, hu]; rfl] at hsc
    have hbd := HBD.out q hq
    have hself : q = b → bt x.wins q b = false := fun e => by rw [e]; exact tourB_irr HOK.out hb
    have hanti : q ≠ b → bt x.wins q b ≠ bt x.wins b q := fun e => tourB_anti HOK.out hql hb e
    have hmb : Mb (bt x.wins) q b = (if bt x.wins q b then 1 else 0) - (if bt x.wins b q then 1 else 0) := rfl
    have n1 : ¬ bw = w.heap.size := by omega
    have n2 : ¬ bb = w.heap.size := by omega
    generalize balF (bt x.wins) ws b q = S at *
    have HQ : Hid (q ≤ 7) := by show _ ≤ _; omega
    have hSb : -800000 ≤ S ∧ S ≤ 800000 := by omega
    clear hu hz HRG HBD
    have HSC := Lib.hid hsc
    cases ha : bt x.wins q b
    · cases hc : bt x.wins b q
      · have HN : Hid (balF (bt x.wins) ws b (q + 1) = S) := by show _ = _; rw [HSC.out, hmb, ha, hc]; simp
        rw [ha] at bz
        rw [hc] at by_
        simp only [Bool.false_eq_true, if_false] at bz by_
        clear hsc hmb hself hanti ha hc hbd
        go_wp2
        go_roundw
        case rel => exact ⟨q + 1, by omega, by go_num, by rw [HN.out], trivial⟩
        case measure => simp [intOf]; omega
      · have HN : Hid (balF (bt x.wins) ws b (q + 1) = S - u0) := by show _ = _; rw [HSC.out, hmb, ha, hc]; simp; omega
        rw [ha] at bz
        rw [hc] at by_
        simp only [Bool.false_eq_true, if_false, if_true] at bz by_
        clear hsc hmb hself hanti ha hc hbd
        go_wp2
        go_roundw
        case rel => exact ⟨q + 1, by omega, by go_num, by rw [HN.out], trivial⟩
        case measure => simp [intOf]; omega
    · have hc : bt x.wins b q = false := by
        have hne : q ≠ b := fun e => by have := hself e; rw [ha] at this; cases this
        have := hanti hne
        rw [ha] at this
        cases h : bt x.wins b q
        · rfl
        · exact absurd h.symm this
      have HN : Hid (balF (bt x.wins) ws b (q + 1) = S + u0) := by show _ = _; rw [HSC.out, hmb, ha, hc]; simp
      rw [ha] at bz
      simp only [if_true] at bz
      clear hsc hmb hself hanti ha hc hbd by_
      go_wp2
      go_roundw
      case rel => exact ⟨q + 1, by omega, by go_num, by rw [HN.out], trivial⟩
      case measure => simp [intOf]; omega

/-- The greatest common divisor of the first i numbers. -/
def gcdI (l : List Int) (i : Nat) : Nat := (l.take i).foldl (fun g x => Nat.gcd g x.natAbs) 0
theorem gcdI_succ {l : List Int} {i : Nat} {x : Int} (h : l[i]? = some x) : gcdI l (i + 1) = Nat.gcd (gcdI l i) x.natAbs := by
  unfold gcdI
  rw [take_snoc h, List.foldl_append]; rfl
theorem gcdI_all (l : List Int) : gcdI l l.length = gcdL l := by unfold gcdI gcdL; rw [List.take_length]
theorem gcdI_le {l : List Int} (h : ∀ x ∈ l, 0 ≤ x ∧ x ≤ 1000000) : ∀ i, i ≤ l.length → gcdI l i ≤ 1000000
  | 0, _ => by simp [gcdI]
  | i + 1, hi => by
    have ih := gcdI_le h i (by omega)
    rw [gcdI_succ (List.getElem?_eq_getElem (by omega))]
    have h1 := h l[i] (List.getElem_mem _)
    by_cases h0 : gcdI l i = 0
    · rw [h0, Nat.gcd_zero_left]; omega
    · exact Nat.le_trans (Nat.gcd_le_left _ (by omega)) ih
set_option maxHeartbeats 2000000 in
set_option maxRecDepth 100000 in
theorem lowest_any (A : Option Addr) (c : Nat) (xs : List Int) (w : World) (hs : SlI w A xs) (hx : ∀ x ∈ xs, 0 ≤ x ∧ x ≤ 1000000) (hn : xs.length ≤ 1000) (hg : 0 < gcdL xs) :
    Calls Tryd.prog 41 #[.slice A xs.length c] w fun e w' => ∃ v', e = .returned v' ∧ Fr w' w.heap.size w'.heap.size v' (lowL xs) ∧ Below w.heap.size w w' := by
  have HS := Lib.hid hs
  have HX := Lib.hid hx
  have HG := Lib.hid hg
  have HGL := Lib.hid (gcdI_le hx)
  have HGA := Lib.hid (gcdI_all xs)
  generalize hl : xs.length = n at *
  have HL := Lib.hid hl
  clear hs hx hg hl
  go_enter Tryd.func41, Tryd.ntmps41
  go_wp2
  go_loopw [3, 5, 11] (fun g _ i wr => ∃ q : Nat, q ≤ n ∧ i = .int .i64 (q : Int) ∧ g = .int .i64 (gcdI xs q : Nat) ∧ ∃ k, wr = w.drewN k) (fun _ _ i _ => n - (intOf i).toNat)
  case atStart => exact ⟨0, Nat.zero_le _, rfl, rfl, 0, rfl⟩
  case round =>
    obtain ⟨q, hq, rfl, rfl, k1, rfl⟩ := hrel
    by_cases hlt : q < n
    · obtain ⟨b, off, y, rfl, hy, cy, hbl⟩ := (SlI.drewN HS.out k1).at_ (k := q) (by rw [HL.out]; exact hlt)
      obtain ⟨y1, y2⟩ := HX.out y (List.mem_of_getElem? hy)
      obtain ⟨Y, rfl⟩ : ∃ Y : Nat, y = (Y : Int) := ⟨y.toNat, by omega⟩
      have HN : Hid (gcdI xs (q + 1) = Nat.gcd (gcdI xs q) Y) := gcdI_succ hy
      have hgl := HGL.out q (by omega)
      clear hy
      go_wp2
      go_loopw [3, 5] (fun g m wr => ∃ a b : Nat, a ≤ 1000000 ∧ b ≤ 1000000 ∧ g = .int .i64 (a : Int) ∧ m = .int .i64 (b : Int) ∧ Hid (Nat.gcd a b = gcdI xs (q + 1)) ∧ ∃ k, wr = w.drewN k) (fun _ m _ => (intOf m).toNat)
      case atStart => exact ⟨gcdI xs q, Y, hgl, by omega, rfl, rfl, HN.out.symm, k1, rfl⟩
      case round =>
        obtain ⟨a, d, ha, hd, rfl, rfl, HE, k2, rfl⟩ := hrel
        by_cases h0 : d = 0
        · subst h0
          have HE2 : Hid (gcdI xs (q + 1) = a) := by show _ = _; rw [← HE.out, Nat.gcd_zero_right]
          go_wp2
          go_roundw
          case rel => exact ⟨q + 1, by omega, by go_num, by rw [HE2.out], k2, rfl⟩
          case measure => simp [intOf]; omega
        · have f1 : ¬ ((d : Int) = 0) := by omega
          have f2 : Int.tmod (a : Int) (d : Int) = ((a % d : Nat) : Int) := rfl
          have f3 : a % d < d := Nat.mod_lt _ (by omega)
          have HE2 : Hid (Nat.gcd d (a % d) = gcdI xs (q + 1)) := by show _ = _; rw [← HE.out, Nat.gcd_comm d, ← Nat.gcd_rec, Nat.gcd_comm]
          have f4 : ((d : Int) == 0) = false := by simpa using f1
          go_wp2
          go_quiet (fail)
          go_wp2
          go_roundw
          case rel => exact ⟨d, a % d, by omega, by omega, rfl, by simp, HE2.out, k2 + nq, World.drewN_drewN _ _ _⟩
          case measure => simp [intOf]; omega
    · obtain rfl : q = n := by omega
      have HGP : Hid (((gcdI xs q : Nat) : Int) = (gcdL xs : Int)) := by show _ = _; rw [HGA.out]
      rw [HGP.out]
      have g1 : ¬ ((gcdL xs : Nat) : Int) = 0 := by have := HG.out; omega
      have H0 : Hid (Fr (w.drewN k1) w.heap.size (w.drewN k1).heap.size (.slice none 0 0) ((lowL xs).take 0) ∧ Below w.heap.size w (w.drewN k1)) := ⟨Fr.nil _ (Nat.le_refl _), below_of_drewN _ _ _⟩
      have HLL : Hid ((lowL xs).length = q) := by show _ = _; unfold lowL; rw [List.length_map, HL.out]
      go_wp2
      go_loopw [6, 24] (fun v i wr => ∃ (r : Nat) (vv : Value), r ≤ q ∧ i = .int .i64 r ∧ vv = v ∧ Hid (Fr wr w.heap.size wr.heap.size vv ((lowL xs).take r) ∧ Below w.heap.size w wr)) (fun _ i _ => q - (intOf i).toNat)
      case atStart => exact ⟨0, _, Nat.zero_le _, rfl, rfl, H0.out⟩
      case round =>
        obtain ⟨r, vv, hr, rfl, rfl, HR⟩ := hrel
        by_cases hlt2 : r < q
        · obtain ⟨b, off, y, rfl, hy, cy, hbl⟩ := (SlI.below HS.out HR.out.2).at_ (k := r) (by rw [HL.out]; exact hlt2)
          obtain ⟨y1, y2⟩ := HX.out y (List.mem_of_getElem? hy)
          obtain ⟨Y, rfl⟩ : ∃ Y : Nat, y = (Y : Int) := ⟨y.toNat, by omega⟩
          have HT : Hid ((lowL xs).take (r + 1) = (lowL xs).take r ++ [((Y : Int)).tdiv (gcdL xs : Int)]) := take_snoc (by unfold lowL; rw [List.getElem?_map, hy]; rfl)
          have hTL : ((lowL xs).take r).length = r := by rw [List.length_take, HLL.out]; omega
          have HTL := Lib.hid hTL
          have f2 : Int.tdiv (Y : Int) (gcdL xs : Int) = ((Y / gcdL xs : Nat) : Int) := rfl
          have hYd : Y / gcdL xs ≤ Y := Nat.div_le_self _ _
          rw [f2] at HT
          generalize Y / gcdL xs = Z at *
          have g2 : (((gcdL xs : Nat) : Int) == 0) = false := by simpa using g1
          have f3 : IntKind.i64.wrap (Z : Int) = (Z : Int) := by rw [IntKind.wrap_i64]; omega
          clear hy hTL
          go_wp2_with (at_builtin; refine app1 rfl _ _ rfl wr w.heap.size vv r ((lowL xs).take r) rfl (by have := HR.out.1.own; rw [HTL.out] at this; exact this) (Z : Int) rfl (by omega) HR.out.2.size ?_; intro v2 w2 hown hb2 _ _; have H2 : Hid (Fr w2 w.heap.size w2.heap.size v2 ((lowL xs).take (r + 1)) ∧ Below w.heap.size w w2) := ⟨by rw [HT.out]; exact Fr.of_own (by rw [List.length_append, HTL.out]; exact hown), HR.out.2.trans (hb2 _ (Nat.le_refl _) HR.out.2.size)⟩; clear hown hb2)
          go_roundw
          case rel => exact ⟨r + 1, _, by omega, by go_num, rfl, H2.out⟩
          case measure => simp [intOf]; omega
        · obtain rfl : r = q := by omega
          have HF : Hid (Fr wr w.heap.size wr.heap.size vv (lowL xs)) := by have := HR.out.1; rw [List.take_of_length_le (by rw [HLL.out]; exact Nat.le_refl _)] at this; exact this
          go_wp2
          go_ret
          exact ⟨_, rfl, HF.out, HR.out.2⟩

set_option maxHeartbeats 1000000 in
set_option maxRecDepth 100000 in
theorem l10Gcd_any (a b : Nat) (w : World) (ha : a ≤ 4398046511104) (hb : b ≤ 4398046511104) :
    Calls Tryd.prog 33 #[.int .i64 (a : Int), .int .i64 (b : Int)] w fun e w' => e = .returned (.int .i64 (Nat.gcd a b : Nat)) ∧ w = w' := by
  go_enter Tryd.func33, Tryd.ntmps33
  go_wp2
  go_loop [0, 1] (fun g m => ∃ c d : Nat, c ≤ 4398046511104 ∧ d ≤ 4398046511104 ∧ g = .int .i64 (c : Int) ∧ m = .int .i64 (d : Int) ∧ Hid (Nat.gcd c d = Nat.gcd a b)) (fun _ m => (intOf m).toNat)
  case atStart => exact ⟨a, b, ha, hb, rfl, rfl, rfl⟩
  case round =>
    obtain ⟨c, d, hc, hd, rfl, rfl, HE⟩ := hrel
    by_cases h0 : d = 0
    · subst h0
      have HE2 : Hid (Nat.gcd a b = c) := by show _ = _; rw [← HE.out, Nat.gcd_zero_right]
      go_wp2
      go_ret
      exact ⟨by rw [HE2.out]; rfl, rfl⟩
    · have f1 : (0 : Int) < (d : Int) := by omega
      have f5 : ¬ ((d : Int) = 0) := by omega
      have f3 : c % d < d := Nat.mod_lt _ (by omega)
      have HE2 : Hid (Nat.gcd d (c % d) = Nat.gcd a b) := by show _ = _; rw [← HE.out, Nat.gcd_comm d, ← Nat.gcd_rec, Nat.gcd_comm]
      have f4 : ((d : Int) == 0) = false := by simpa using f5
      go_wp2
      go_round
      case rel => exact ⟨d, c % d, by omega, by omega, rfl, by simp, HE2.out⟩
      case measure => simp [intOf]; omega

set_option maxHeartbeats 2000000 in
set_option maxRecDepth 100000 in
theorem l10Balance_any (v : Value) (x : TourV) (A : Option Addr) (c : Nat) (ws : List Int) (b : Nat) (w : World) (hok : tourB x = true) (hs : InT w v x) (hw : SlI w A ws) (hn : ws.length = x.wins.length) (hb : b < x.wins.length) (hr : ∀ y ∈ ws, 0 ≤ y ∧ y ≤ 100000) :
    Calls Tryd.prog 34 #[v, .slice A ws.length c, .int .i64 (b : Int)] w fun e w' => e = .returned (.int .i64 (balF (bt x.wins) ws b x.wins.length)) ∧ Below w.heap.size w w' := by
  have HIT := Lib.hid hs
  have HW := Lib.hid hw
  obtain ⟨u, rfl, B, d, rfl, hd, hm, hts⟩ := hs
  obtain ⟨t1, t2, t3, t4, _⟩ := tourB_t hok
  have hn8 : x.wins.length ≤ 8 := by omega
  have HBD : Hid (∀ i, i ≤ x.wins.length → (balF (bt x.wins) ws b i).natAbs ≤ i * 100000) := fun i hi => balF_abs hr i (by omega)
  have HOK := Lib.hid hok
  have HRG := Lib.hid hr
  have HBT : Hid (∀ V (p q : Nat), Below w.heap.size w V → p < x.wins.length → q < x.wins.length → Calls Tryd.prog 31 #[.agg #[.int .i64 x.size, .slice B x.wins.length d], .int .i64 (p : Int), .int .i64 (q : Int)] V fun e w' => e = .returned (.bool (bt x.wins p q)) ∧ Below V.heap.size V w') := fun V p q hV hp hq => specBeats_any _ x p q V (HIT.out.below hV) hn8 t4 hp (by omega)
  have H0 : Hid (Bx (w.alloc (.cells #[.int .i64 x.size, .slice B x.wins.length d] 27)) w.heap.size (.int .i64 x.size) (.slice B x.wins.length d) ∧ Below w.heap.size w (w.alloc (.cells #[.int .i64 x.size, .slice B x.wins.length d] 27))) := ⟨⟨by simp, by simp, by simp⟩, (Below.refl _ w).alloc (Nat.le_refl _) _⟩
  rw [hn]
  have HNL := Lib.hid hn
  clear hts hw hn t4 hok hr
  go_enter Tryd.func34, Tryd.ntmps34
  go_wp2
  go_loopw [7, 12] (fun s i wr => ∃ q : Nat, q ≤ x.wins.length ∧ i = .int .i64 (q : Int) ∧ s = .int .i64 (balF (bt x.wins) ws b q) ∧ Hid (Bx wr w.heap.size (.int .i64 x.size) (.slice B x.wins.length d) ∧ Below w.heap.size w wr)) (fun _ i _ => x.wins.length - (intOf i).toNat)
  case atStart => exact ⟨0, Nat.zero_le _, rfl, rfl, H0.out⟩
  case round =>
    obtain ⟨q, hq, rfl, rfl, HR⟩ := hrel
    obtain ⟨wo, rfl⟩ : ∃ W, W = wr := ⟨wr, rfl⟩
    clear H0
    by_cases hql : q < x.wins.length
    case neg =>
      obtain rfl : q = x.wins.length := by omega
      go_wp2
      go_ret
      exact ⟨rfl, HR.out.2⟩
    obtain ⟨q0, q1, q2⟩ := id HR.out.1
    obtain ⟨bw, ow, u0, rfl, hu, cu, hltu⟩ := (SlI.below HW.out HR.out.2).at_ (k := q) (by rw [HNL.out]; exact hql)
    obtain ⟨g1, g2⟩ := HRG.out u0 (List.mem_of_getElem? hu)
    have hsc := balF_succ (bt x.wins) ws b q
    rw [show fn ws q = u0 by unfold fn; rw [List.getD_eq_getElem?_getD, hu]; rfl] at hsc
    have hbd := HBD.out q hq
    have hmb : Mb (bt x.wins) q b = (if bt x.wins q b then 1 else 0) - (if bt x.wins b q then 1 else 0) := rfl
    generalize balF (bt x.wins) ws b q = S at *
    have hSb : -800000 ≤ S ∧ S ≤ 800000 := by omega
    have HSC := Lib.hid hsc
    have hB1 := Lib.hid (fun V hV => HBT.out V q b hV hql hb)
    have hB2 := Lib.hid (fun V hV => HBT.out V b q hV hb hql)
    cases ha : bt x.wins q b
    all_goals
      cases hc : bt x.wins b q
      all_goals
        have HN : Hid (balF (bt x.wins) ws b (q + 1) = S + (if bt x.wins q b then u0 else 0) - (if bt x.wins b q then u0 else 0)) := by show _ = _; rw [HSC.out, hmb, ha, hc]; simp <;> omega
        rw [ha, hc] at HN
        simp only [Bool.false_eq_true, if_true, if_false, Int.add_zero, Int.sub_zero] at HN
        rw [ha] at hB1
        rw [hc] at hB2
        clear hu hsc hmb ha hc hbd HSC
        go_wp2_with (first
          | (go_at_call 31; refine (hB1.out _ HR.out.2).mono ?_; rintro e w4 ⟨rfl, hb4⟩; have H4 : Hid (Bx w4 w.heap.size (.int .i64 x.size) (.slice B x.wins.length d) ∧ Below w.heap.size w w4) := ⟨HR.out.1.below hb4, HR.out.2.trans (hb4.mono HR.out.2.size)⟩; clear hb4 q0 q1 q2; obtain ⟨q0, q1, q2⟩ := id H4.out.1; clear hB1)
          | (go_at_call 31; refine (hB2.out _ H4.out.2).mono ?_; rintro e w5 ⟨rfl, hb5⟩; have H5 : Hid (Bx w5 w.heap.size (.int .i64 x.size) (.slice B x.wins.length d) ∧ Below w.heap.size w w5) := ⟨H4.out.1.below hb5, H4.out.2.trans (hb5.mono H4.out.2.size)⟩; clear hb5 q0 q1 q2; clear hB2))
        go_roundw
        case rel => exact ⟨q + 1, by omega, by go_num, by first | (rw [HN.out]; done) | (rw [HN.out]; congr 1; omega), H5.out⟩
        case measure => simp [intOf]; omega
end Go.Proofs.YtklhplifceedeaaDoor
