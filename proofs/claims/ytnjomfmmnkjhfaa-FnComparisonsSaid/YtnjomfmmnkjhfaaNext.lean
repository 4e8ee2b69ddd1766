/- The next order: contracts. -/
import Derived.Test.YtnjomfmmnkjhfaaUp
import Derived.Test.YtnjomfmmnkjhfaaRev
import Derived.Test.YtnjomfmmnkjhfaaDist
import Derived.Test.YtnjomfmmnkjhfaaNum
import Derived.Deep.QuietTactic
import Derived.BigQuiet
namespace Go.Proofs.Ytnjomfmmnkjhfaa
open Go.ChangeShapes Go.WideShapes Go.ChangeAt Go.RowKit

theorem below_drew2 {B : Nat} {a w : World} (h : Below B a w) : Below B a w.drew := ⟨h.os, h.tape, h.output, h.size, h.block⟩
/-- Where the falling end of a begins, at or below i. -/
def dn (a : List Int) : Nat → Nat
  | 0 => 0
  | i + 1 => if a.getD (i + 1) 0 < a.getD i 0 then dn a i else i + 1
theorem dn_le (a : List Int) : ∀ i, dn a i ≤ i
  | 0 => Nat.le_refl _
  | i + 1 => by
    have := dn_le a i
    rw [dn]; split <;> omega
theorem dn_fall (a : List Int) : ∀ i q, dn a i ≤ q → q < i → a.getD (q + 1) 0 < a.getD q 0
  | 0, q, _, h => by omega
  | i + 1, q, h1, h2 => by
    rw [dn] at h1
    split at h1
    · rename_i hlt
      by_cases e : q = i
      · subst e; exact hlt
      · exact dn_fall a i q h1 (by omega)
    · omega
theorem dn_rise (a : List Int) : ∀ i q, dn a i = q + 1 → ¬ a.getD (q + 1) 0 < a.getD q 0
  | 0, q, h => by rw [dn] at h; omega
  | i + 1, q, h => by
    rw [dn] at h
    split at h
    · exact dn_rise a i q h
    · rename_i hlt
      obtain rfl : i = q := by omega
      exact hlt
/-- The last place, at or below k, that holds at least p. -/
def kn (a : List Int) (p : Int) : Nat → Nat
  | 0 => 0
  | k + 1 => if a.getD (k + 1) 0 < p then kn a p k else k + 1
theorem kn_le (a : List Int) (p : Int) : ∀ k, kn a p k ≤ k
  | 0 => Nat.le_refl _
  | k + 1 => by
    have := kn_le a p k
    rw [kn]; split <;> omega
theorem kn_ge (a : List Int) (p : Int) {i : Nat} (h : ¬ a.getD i 0 < p) : ∀ k, i ≤ k → i ≤ kn a p k
  | 0, hi => hi
  | k + 1, hi => by
    rw [kn]
    split
    · rename_i hlt
      refine kn_ge a p h k ?_
      have : i ≠ k + 1 := by rintro rfl; exact h hlt
      omega
    · exact hi
theorem kn_hit (a : List Int) (p : Int) : ∀ k, kn a p k ≠ 0 → ¬ a.getD (kn a p k) 0 < p
  | 0, h => absurd rfl h
  | k + 1, h => by
    rw [kn] at h ⊢
    split
    · rename_i hlt
      rw [if_pos hlt] at h
      exact kn_hit a p k h
    · rename_i hlt; exact hlt
theorem kn_after (a : List Int) (p : Int) : ∀ k q, kn a p k < q → q ≤ k → a.getD q 0 < p
  | 0, q, h1, h2 => by omega
  | k + 1, q, h1, h2 => by
    rw [kn] at h1
    split at h1
    · rename_i hlt
      by_cases e : q = k + 1
      · subst e; exact hlt
      · exact kn_after a p k q h1 (by omega)
    · omega
def dnA (a : List Int) : Nat := dn a (a.length - 1)
def pivA (a : List Int) : Int := a.getD (dnA a - 1) 0
def knA (a : List Int) : Nat := kn a (pivA a) (a.length - 1)
def nextOk (a : List Int) : Bool := ladB a && decide (0 < dnA a)
def nextL (a : List Int) : List Int := a.take (dnA a - 1) ++ [a.getD (knA a) 0] ++ ((a.drop (dnA a)).set (knA a - dnA a) (pivA a)).reverse
def nextF (a : List Int) : List Int := if nextOk a then nextL a else []
theorem nextL_length {a : List Int} (h : 0 < dnA a) (h2 : 0 < a.length) : (nextL a).length = a.length := by
  have := dn_le a (a.length - 1)
  unfold nextL dnA at *
  simp; omega
theorem nextF_len {a : List Int} {m : Nat} (h : a.length ≤ m) : (nextF a).length ≤ m := by
  unfold nextF
  split
  · rename_i hk
    simp only [nextOk, Bool.and_eq_true, decide_eq_true_eq] at hk
    rw [nextL_length hk.2 (by have := (ladB_t hk.1).1.1; omega)]; exact h
  · simp
/-- What stands ahead in a ladder's falling end is greater. -/
theorem fall_pair {a : List Int} : ∀ (q r : Nat), dnA a ≤ q → q < r → r < a.length → a.getD r 0 < a.getD q 0
  | q, 0, _, h, _ => by omega
  | q, r + 1, h1, h2, h3 => by
    have h := dn_fall a (a.length - 1) r (by unfold dnA at h1; omega) (by omega)
    by_cases e : q = r
    · subst e; exact h
    · have := fall_pair q r h1 (by omega) (by omega)
      omega

theorem set_rev {l : List Int} {m : Nat} (h : m < l.length) (x : Int) : l.reverse.set m x = (l.set (l.length - 1 - m) x).reverse := by
  apply List.ext_getElem?
  intro i
  by_cases hi : i < l.length
  · rw [List.getElem?_reverse (by rw [List.length_set]; exact hi), List.length_set]
    by_cases e : m = i
    · subst e
      rw [List.getElem?_set_self (by rw [List.length_reverse]; exact h), List.getElem?_set_self (by omega)]
    · rw [List.getElem?_set_ne e, List.getElem?_set_ne (by omega), List.getElem?_reverse hi]
  · rw [List.getElem?_eq_none (by simp; omega), List.getElem?_eq_none (by simp; omega)]
def revL (a : List Int) (i : Nat) : List Int := a.take i ++ (a.drop i).reverse
theorem revL_length {a : List Int} {i : Nat} (h : i ≤ a.length) : (revL a i).length = a.length := by simp [revL]; omega
theorem revL_low {a : List Int} {i q : Nat} (h : q < i) (hi : i ≤ a.length) : (revL a i)[q]? = a[q]? := by
  rw [revL, List.getElem?_append_left (by rw [List.length_take]; omega), List.getElem?_take, if_pos h]
theorem revL_high {a : List Int} {q k : Nat} (h : q + 1 ≤ k) (hk : k < a.length) : (revL a (q + 1))[k]? = a[a.length + q - k]? := by
  have ht : (a.take (q + 1)).length = q + 1 := by rw [List.length_take]; omega
  rw [revL, List.getElem?_append_right (by omega), ht, List.getElem?_reverse (by rw [List.length_drop]; omega), List.getElem?_drop, List.length_drop]
  congr 1; omega
theorem swap_next {a : List Int} {q k : Nat} (hd : dnA a = q + 1) (hk : knA a = a.length + q - k) (h1 : q + 1 ≤ k) (h2 : k < a.length) {x z : Int} (hx : a.getD q 0 = x) (hz : a.getD (a.length + q - k) 0 = z) :
    ((revL a (q + 1)).set q z).set k x = nextL a := by
  have hq : a[q]? = some x := by
    rw [List.getD_eq_getElem?_getD, List.getElem?_eq_getElem (by omega)] at hx
    rw [List.getElem?_eq_getElem (by omega)]
    exact congrArg some hx
  have ht : (a.take q).length = q := by rw [List.length_take]; omega
  have hp : pivA a = x := by rw [pivA, hd]; exact hx
  have e1 : (revL a (q + 1)).set q z = a.take q ++ z :: (a.drop (q + 1)).reverse := by
    rw [revL, take_snoc hq, List.append_assoc, List.set_append_right _ _ (by omega), ht, Nat.sub_self]; rfl
  rw [e1, List.set_append_right _ _ (by omega), ht, show k - q = (k - q - 1) + 1 from by omega, List.set_cons_succ, set_rev (by rw [List.length_drop]; omega)]
  unfold nextL
  rw [hd, hk, hp, hz, List.length_drop, Nat.add_sub_cancel]
  rw [show a.length - (q + 1) - 1 - (k - q - 1) = a.length + q - k - (q + 1) from by omega]
  simp

theorem set_take {a : List Int} {q k : Nat} (h1 : q + 1 ≤ k) (h2 : q < a.length) (x z : Int) : ((a.set q z).set k x).take (q + 1) = a.take q ++ [z] := by
  rw [List.take_set_of_le h1, take_snoc (x := z) (by rw [List.getElem?_set_self h2]), List.take_set_of_le (Nat.le_refl _)]
theorem set_drop {a : List Int} {q k : Nat} (h1 : q + 1 ≤ k) (x z : Int) : ((a.set q z).set k x).drop (q + 1) = (a.drop (q + 1)).set (k - (q + 1)) x := by
  rw [List.drop_set, if_neg (by omega), List.drop_set_of_lt (by omega)]
theorem spec_next {a : List Int} {q k : Nat} (hd : dnA a = q + 1) (hk : knA a = k) (h1 : q + 1 ≤ k) (h2 : k < a.length) {x z : Int} (hx : a.getD q 0 = x) (hz : a.getD k 0 = z) :
    ((a.set q z).set k x).take (q + 1) ++ (((a.set q z).set k x).drop (q + 1)).reverse = nextL a := by
  have hp : pivA a = x := by rw [pivA, hd]; exact hx
  rw [set_take h1 (by omega), set_drop h1]
  unfold nextL
  rw [hd, hk, hp, hz, Nat.add_sub_cancel]
theorem spec_fall {a : List Int} {q k : Nat} (hd : dnA a = q + 1) (hk : knA a = k) (h1 : q + 1 ≤ k) (h2 : k < a.length) {x z : Int} (hx : a.getD q 0 = x) :
    (((a.set q z).set k x).drop (q + 1)).Pairwise fun u v => v < u := by
  have hp : pivA a = x := by rw [pivA, hd]; exact hx
  have hat : ∀ r, r < a.length → a.getD r 0 = a.getD r 0 := fun _ _ => rfl
  have hhit : ¬ a.getD k 0 < x := by
    have h := kn_hit a x (a.length - 1)
    rw [← hp] at h ⊢
    have e : kn a (pivA a) (a.length - 1) = k := hk
    rw [e] at h
    exact h (by omega)
  have haft : ∀ s, k < s → s < a.length → a.getD s 0 < x := by
    intro s h3 h4
    have e : kn a x (a.length - 1) = k := by rw [← hp]; exact hk
    exact kn_after a x (a.length - 1) s (by rw [e]; exact h3) (by omega)
  rw [set_drop h1, List.pairwise_iff_getElem]
  intro r s hr hs hrs
  rw [List.length_set, List.length_drop] at hr hs
  have e : ∀ t (ht : t < ((a.drop (q + 1)).set (k - (q + 1)) x).length), ((a.drop (q + 1)).set (k - (q + 1)) x)[t] = if k - (q + 1) = t then x else a.getD (q + 1 + t) 0 := by
    intro t ht
    rw [List.length_set, List.length_drop] at ht
    rw [List.getElem_set]
    split
    · rfl
    · rw [List.getElem_drop, List.getD_eq_getElem?_getD, List.getElem?_eq_getElem (by omega)]; rfl
  rw [e, e]
  by_cases e1 : k - (q + 1) = r
  · rw [if_pos e1, if_neg (by omega)]
    exact haft _ (by omega) (by omega)
  · rw [if_neg e1]
    by_cases e2 : k - (q + 1) = s
    · rw [if_pos e2]
      have := fall_pair (a := a) (q + 1 + r) k (by omega) (by omega) h2
      omega
    · rw [if_neg e2]
      exact fall_pair (a := a) (q + 1 + r) (q + 1 + s) (by omega) (by omega) (by omega)

set_option maxHeartbeats 4000000 in
set_option maxRecDepth 100000 in
theorem implNextOrder_std (va : Value) (a : List Int) (w : World) (ha : InI w va a) (na : a.length ≤ 1048576) :
    Calls Try.prog 23 #[va] w fun e w' => ∃ v', e = .returned (.tuple #[v', .bool (nextOk a)]) ∧ Fr w' w.heap.size w'.heap.size v' (nextF a) ∧ Below w.heap.size w w' := by
  obtain ⟨A, c, rfl, hc, hm, hs⟩ := ha
  have HL := Lib.hid (implLadderOk_any A c a w hs na hc)
  have HS := Lib.hid hs
  clear hs
  cases hlad : ladB a
  case false =>
    have HO : Hid (nextOk a = false ∧ nextF a = []) := by constructor <;> simp [nextF, nextOk, hlad]
    go_enter Try.func23, Try.ntmps23
    go_wp2_with fail
    refine HL.out.mono ?_
    rintro e w1 ⟨rfl, rfl⟩
    rw [hlad]
    go_wp2
    go_ret2
    exact ⟨_, by rw [HO.out.1]; rfl, by rw [HO.out.2]; exact Fr.nil _ (Nat.le_refl _), Below.refl _ _⟩
  have hl8 := (ladB_t hlad).1
  have LAD := Lib.hid hlad
  clear hlad
  go_enter Try.func23, Try.ntmps23
  go_wp2_with fail
  refine HL.out.mono ?_
  rintro e w1 ⟨rfl, rfl⟩
  rw [LAD.out]
  go_wp2_with fail
  refine (cloneI_any A c a w HS.out na).mono ?_
  rintro e w1 ⟨A1, k1, rfl, hf1, hb1⟩
  obtain ⟨g, y0, rfl, q1, q2, -⟩ := hf1.at_ (k := 0) (by omega)
  obtain ⟨A', c', he, hk1, hm1⟩ := hf1.form
  injection he with e1 e2 e3
  subst e3
  clear e1 e2
  unfold maxLen at hm1
  have F1 : Hid (Fr w1 w.heap.size w1.heap.size (.slice (some ⟨g, 0, none⟩) a.length k1) a ∧ Below w.heap.size w w1) := ⟨hf1, hb1⟩
  clear hf1 hb1 HL
  generalize hn : a.length = n at *
  have HN := Lib.hid hn
  clear hn
  go_wp2
  go_loopw [5] (fun v wr => ∃ i : Nat, i + 1 ≤ n ∧ v = .int .i64 ((i : Int) - 1) ∧ Hid (dnA a = dn a i) ∧ Hid (Fr wr w.heap.size wr.heap.size (.slice (some ⟨g, 0, none⟩) n k1) a ∧ Below w.heap.size w wr)) (fun v _ => (intOf v + 1).toNat)
  case atStart => exact ⟨n - 1, by omega, by rw [show ((n - 1 : Nat) : Int) - 1 = (n : Int) - 2 from by omega], by show _ = _; rw [dnA, HN.out], F1.out⟩
  case round =>
    obtain ⟨i, hi, hv, HD, HR⟩ := hrel
    clear F1
    cases i with
    | zero =>
      subst hv
      have HO : Hid (nextOk a = false ∧ nextF a = []) := by
        have h : dnA a = 0 := HD.out
        constructor <;> simp [nextF, nextOk, h]
      go_wp2
      go_quiet (fail)
      go_wp2
      go_ret2
      exact ⟨_, by rw [HO.out.1]; rfl, by rw [HO.out.2]; exact Fr.nil _ (Nat.le_refl _), below_drewN HR.out.2 _⟩
    | succ q =>
      rw [show ((q + 1 : Nat) : Int) - 1 = q from by omega] at hv
      subst hv
      obtain ⟨g1, x, hg1, -, -, hx, hxc, hxf, -⟩ := HR.out.1.at_ (k := q) (by rw [HN.out]; omega)
      obtain rfl : g = g1 := congrArg Addr.block (Option.some.inj hg1)
      obtain ⟨g2, y, hg2, -, -, hy, hyc, hyf, -⟩ := HR.out.1.at_ (k := q + 1) (by rw [HN.out]; omega)
      obtain rfl : g = g2 := congrArg Addr.block (Option.some.inj hg2)
      have HX : Hid (a.getD q 0 = x) := by show _ = _; rw [List.getD_eq_getElem?_getD, hx]; rfl
      have HY : Hid (a.getD (q + 1) 0 = y) := by show _ = _; rw [List.getD_eq_getElem?_getD, hy]; rfl
      clear hg1 hg2 hx hy
      have dq : decide ((0 : Int) ≤ q) = true := by simp
      by_cases hxy : y < x
      · have HD2 : Hid (dnA a = dn a q) := by show _ = _; rw [HD.out, dn, HX.out, HY.out, if_pos hxy]
        go_wp2
        go_quiet (fail)
        go_wp2
        go_roundw
        all_goals first | exact ⟨q, by omega, by go_num, HD2.out, HR.out.1, below_drewN HR.out.2 _⟩ | (simp [intOf]; try omega)
      · have HD2 : Hid (dnA a = q + 1) := by show _ = _; rw [HD.out, dn, HX.out, HY.out, if_neg hxy]
        go_wp2
        go_quiet (fail)
        have HR2 : Hid (Fr (wr.drewN nq) w.heap.size (wr.drewN nq).heap.size (.slice (some ⟨g, 0, none⟩) n k1) a ∧ Below w.heap.size w (wr.drewN nq)) := ⟨HR.out.1, below_drewN HR.out.2 nq⟩
        clear HR hxc hxf hyc hyf HD
        generalize wr.drewN nq = w2 at *
        have hkc : ¬ k1 = q + 1 := by omega
        have HP : Hid (pivA a = x) := by show _ = _; rw [pivA, HD2.out]; exact HX.out
        have HRL : Hid ((revL a (q + 1)).length = n) := by show _ = _; rw [revL_length (by rw [HN.out]; omega), HN.out]
        go_wp2_with (go_at_call 40; refine (reverseI_any g n k1 w.heap.size w2.heap.size (q + 1) _ a w2 HN.out.symm (by rw [HN.out]; omega) HR2.out.1 (by omega)).mono ?_; rintro e w3 ⟨rfl, hf3, hk3⟩; have F3 : Hid (Fr w3 w.heap.size w3.heap.size (.slice (some ⟨g, 0, none⟩) n k1) (revL a (q + 1)) ∧ Below w.heap.size w w3) := ⟨hf3.wide (Nat.le_refl _) hk3.size (Nat.le_refl _), HR2.out.2.trans (hk3.below (Nat.le_refl _) HR2.out.2.size)⟩; clear hf3 hk3 HR2)
        go_loopw [6] (fun v wr => ∃ k : Nat, q + 1 ≤ k ∧ k < n ∧ v = .int .i64 k ∧ Hid (knA a = kn a x (n + q - k)) ∧ Hid (Fr wr w.heap.size wr.heap.size (.slice (some ⟨g, 0, none⟩) n k1) (revL a (q + 1)) ∧ Below w.heap.size w wr)) (fun v _ => n - (intOf v).toNat)
        case atStart => exact ⟨q + 1, Nat.le_refl _, by omega, by go_num, by show _ = _; rw [knA, HP.out, HN.out]; congr 1; omega, F3.out⟩
        case round =>
          obtain ⟨k, hk1, hk2, rfl, HK, HR⟩ := hrel
          clear F3
          obtain ⟨g1, x1, hg1, -, -, hx, hxc, hxf, -⟩ := HR.out.1.at_ (k := q) (by rw [HRL.out]; omega)
          obtain rfl : g = g1 := congrArg Addr.block (Option.some.inj hg1)
          obtain ⟨g2, z, hg2, -, -, hz, hzc, hzf, -⟩ := HR.out.1.at_ (k := k) (by rw [HRL.out]; omega)
          obtain rfl : g = g2 := congrArg Addr.block (Option.some.inj hg2)
          rw [revL_low (by omega) (by rw [HN.out]; omega)] at hx
          rw [revL_high hk1 (by rw [HN.out]; omega), HN.out] at hz
          obtain rfl : x = x1 := by have h := HX.out; rw [List.getD_eq_getElem?_getD, hx] at h; exact h.symm
          have HZ : Hid (a.getD (n + q - k) 0 = z) := by show _ = _; rw [List.getD_eq_getElem?_getD, hz]; rfl
          clear hg1 hg2 hx hz
          by_cases hzx : z < x
          · have hkn : k + 1 < n := by
              rcases Nat.lt_or_ge (k + 1) n with h | h
              · exact h
              · have h2 := HZ.out
                rw [show n + q - k = q + 1 from by omega, HY.out] at h2
                omega
            have HK2 : Hid (knA a = kn a x (n + q - (k + 1))) := by
              show _ = _
              rw [HK.out, show n + q - k = n + q - (k + 1) + 1 from by omega, kn, show n + q - (k + 1) + 1 = n + q - k from by omega, HZ.out, if_pos hzx]
            go_wp2
            go_quiet (fail)
            go_wp2
            go_roundw
            all_goals first | exact ⟨k + 1, by omega, by omega, by go_num, HK2.out, HR.out.1, below_drewN HR.out.2 _⟩ | (simp [intOf]; try omega)
          · have HK2 : Hid (knA a = n + q - k) := by
              show _ = _
              rw [HK.out, show n + q - k = n + q - (k + 1) + 1 from by omega, kn, show n + q - (k + 1) + 1 = n + q - k from by omega, HZ.out, if_neg hzx]
            have HSW : Hid (((revL a (q + 1)).set q z).set k x = nextL a) := swap_next HD2.out (by rw [HK2.out, HN.out]) hk1 (by rw [HN.out]; exact hk2) HX.out (by rw [HN.out]; exact HZ.out)
            have HO : Hid (nextOk a = true ∧ nextF a = nextL a) := by
              have h : nextOk a = true := by unfold nextOk; rw [LAD.out, HD2.out]; simp
              exact ⟨h, by unfold nextF; rw [if_pos h]⟩
            go_wp2
            go_quiet (fail)
            have HR3 : Hid (Fr (wr.drewN nq) w.heap.size (wr.drewN nq).heap.size (.slice (some ⟨g, 0, none⟩) n k1) (revL a (q + 1)) ∧ Below w.heap.size w (wr.drewN nq)) := ⟨HR.out.1, below_drewN HR.out.2 nq⟩
            clear HR hxc hxf hzc hzf HK
            generalize wr.drewN nq = w4 at *
            obtain ⟨g1, x1, hg1, -, -, hx, hxc, hxf, hst1⟩ := HR3.out.1.at_ (k := q) (by rw [HRL.out]; omega)
            obtain rfl : g = g1 := congrArg Addr.block (Option.some.inj hg1)
            obtain ⟨g2, z1, hg2, -, -, hz, hzc, hzf, -⟩ := HR3.out.1.at_ (k := k) (by rw [HRL.out]; omega)
            obtain rfl : g = g2 := congrArg Addr.block (Option.some.inj hg2)
            rw [revL_low (by omega) (by rw [HN.out]; omega)] at hx
            rw [revL_high hk1 (by rw [HN.out]; omega), HN.out] at hz
            obtain rfl : x = x1 := by have h := HX.out; rw [List.getD_eq_getElem?_getD, hx] at h; exact h.symm
            obtain rfl : z = z1 := by have h := HZ.out; rw [List.getD_eq_getElem?_getD, hz] at h; exact h.symm
            obtain ⟨s1, s2⟩ := hst1 z
            obtain ⟨g3, z2, hg3, -, -, hz2, hzc2, hzf2, hst2⟩ := s1.at_ (k := k) (by rw [List.length_set, HRL.out]; omega)
            obtain rfl : g = g3 := congrArg Addr.block (Option.some.inj hg3)
            obtain ⟨t1, t2⟩ := hst2 x
            have HST : Hid (Fr ((w4.setCell ⟨g, q, none⟩ (.int .i64 z)).setCell ⟨g, k, none⟩ (.int .i64 x)) w.heap.size ((w4.setCell ⟨g, q, none⟩ (.int .i64 z)).setCell ⟨g, k, none⟩ (.int .i64 x)).heap.size (.slice (some ⟨g, 0, none⟩) n k1) (nextL a) ∧ Below w.heap.size w ((w4.setCell ⟨g, q, none⟩ (.int .i64 z)).setCell ⟨g, k, none⟩ (.int .i64 x))) := by
              rw [HSW.out] at t1
              exact ⟨t1.wide (Nat.le_refl _) (Nat.le_trans s2.size t2.size) (Nat.le_refl _), HR3.out.2.trans ((s2.trans t2).below (Nat.le_refl _) HR3.out.2.size)⟩
            clear hg1 hg2 hg3 hx hz hst1 hst2 s1 s2 t1 t2 hz2 HR3
            go_wp2
            go_region
            all_goals go_wp2
            all_goals go_ret2
            all_goals exact ⟨_, by rw [HO.out.1]; rfl, by rw [HO.out.2]; exact HST.out.1, below_drew2 HST.out.2⟩

theorem Fr.some_ {w : World} {lo hi : Nat} {v : Value} {xs : List Int} (h : Fr w lo hi v xs) (hl : 0 < xs.length) : ∃ g c, v = .slice (some ⟨g, 0, none⟩) xs.length c := by
  obtain ⟨A, c, rfl, _⟩ := h.form
  obtain ⟨g, _, rfl, _⟩ := h.at_ (k := 0) hl
  exact ⟨g, c, rfl⟩
theorem rev_take {xs : List Int} {j q : Nat} (h : q < j) (hj : j ≤ xs.length) : (xs.take j).reverse[q]? = xs[j - 1 - q]? := by
  rw [List.getElem?_reverse (by rw [List.length_take]; omega), List.length_take, Nat.min_eq_left hj, List.getElem?_take, if_pos (by omega)]
theorem pair_at {xs : List Int} (hp : xs.Pairwise fun u v => v < u) {r s : Nat} (h : r < s) {x y : Int} (hx : xs[r]? = some x) (hy : xs[s]? = some y) : y < x := by
  obtain ⟨h1, e1⟩ := List.getElem?_eq_some_iff.1 hx
  obtain ⟨h2, e2⟩ := List.getElem?_eq_some_iff.1 hy
  have := (List.pairwise_iff_getElem.1 hp) r s h1 h2 h
  rw [e1, e2] at this; exact this
set_option maxHeartbeats 4000000 in
theorem l03Sort_fall (A : Option Addr) (c : Nat) (xs : List Int) (w : World) (hs : SlI w A xs) (hn : xs.length ≤ 1024) (hp : xs.Pairwise fun u v => v < u) :
    Calls Try.prog 44 #[.slice A xs.length c] w fun e w' => ∃ v', e = .returned v' ∧ Fr w' w.heap.size w'.heap.size v' xs.reverse ∧ Below w.heap.size w w' := by
  have HS := Lib.hid hs
  have HP := Lib.hid hp
  clear hs hp
  go_enter Try.func44, Try.ntmps44
  go_wp2
  go_loopw [3, 11] (fun v i wr => ∃ (j g0 c0 : Nat), j ≤ xs.length ∧ i = .int .i64 j ∧ v = .slice (some ⟨g0, 0, none⟩) j c0 ∧ Hid (Fr wr w.heap.size wr.heap.size (.slice (some ⟨g0, 0, none⟩) j c0) ((xs.take j).reverse) ∧ Below w.heap.size w wr)) (fun _ i _ => xs.length - (intOf i).toNat)
  case atStart => exact ⟨0, _, _, Nat.zero_le _, rfl, rfl, Fr.of_own (xs := []) (World.ownsRow_made w #[] 0 (Nat.le_refl _) (by unfold maxLen; omega) rfl), (Below.refl _ w).alloc (Nat.le_refl _) _⟩
  case round =>
    obtain ⟨j, g0, c0, hj, rfl, rfl, HR⟩ := hrel
    obtain ⟨wo, rfl⟩ : ∃ W, W = wr := ⟨wr, rfl⟩
    by_cases hlt : j < xs.length
    case neg =>
      obtain rfl : j = xs.length := by omega
      have h := HR.out.1
      rw [List.take_of_length_le (Nat.le_refl _)] at h
      have HF := Lib.hid h
      clear h
      go_wp2
      go_ret
      exact ⟨_, rfl, HF.out, HR.out.2⟩
    have dx : decide ((j : Int) < xs.length) = true := by simp; exact hlt
    obtain ⟨b1, o1, x, rfl, hx1, hx2, _⟩ := (HS.out.below HR.out.2).at_ (k := j) hlt
    have HX := Lib.hid hx1
    have hc0 : j ≤ c0 := by
      obtain ⟨A', c', he, hc, _⟩ := HR.out.1.form
      injection he with _ _ e3
      subst e3
      have : ((xs.take j).reverse).length = j := by simp; omega
      omega
    have hcm : c0 ≤ 9223372036854775807 := by
      obtain ⟨A', c', he, _, hm⟩ := HR.out.1.form
      injection he with _ _ e3
      subst e3
      unfold maxLen at hm; omega
    clear hx1
    go_wp2
    go_loop [6] (fun v => ∃ k : Nat, k ≤ j ∧ v = .int .i64 k) (fun v => (intOf v).toNat)
    case atStart => exact ⟨j, Nat.le_refl _, rfl⟩
    case round =>
      obtain ⟨k, hk, rfl⟩ := hrel
      cases k with
      | succ q =>
        obtain ⟨g1, y, hg1, -, -, hy, hyc, -, -⟩ := HR.out.1.at_ (k := q) (by simp; omega)
        obtain rfl : g0 = g1 := congrArg Addr.block (Option.some.inj hg1)
        rw [rev_take (by omega) hj] at hy
        have hxy : x < y := pair_at HP.out (show j - 1 - q < j by omega) hy HX.out
        clear hg1 hy
        go_wp2
        go_round
        all_goals first | exact ⟨q, by omega, by go_num⟩ | (simp [intOf]; try omega)
      | zero =>
        have HOLD : Hid (SlI wo (some ⟨g0, 0, none⟩) ((xs.take j).reverse)) := HR.out.1.sl
        have hrl : ((xs.take j).reverse).length = j := by simp; omega
        have HRL := Lib.hid hrl
        have HTK : Hid ((xs.take (j + 1)).reverse = [x] ++ (xs.take j).reverse) := by show _ = _; rw [take_snoc HX.out]; simp
        clear hrl
        go_wp2_with (first
          | (at_builtin; refine appSrc rfl _ _ rfl (wo.alloc (.cells #[] 3)) wo.heap.size _ 0 [] rfl (World.ownsRow_made wo #[] 0 (Nat.le_refl _) (by unfold maxLen; omega) rfl) ⟨g0, 0, none⟩ 0 c0 [] rfl rfl SlI.nil (by omega) (by simp) ?_; intro v1 w1 hown1 hb1 _; have F1 : Hid (w1.ownsRow wo.heap.size 3 1 v1 0 (ints []) ∧ Below wo.heap.size wo w1) := ⟨hown1, ((Below.refl wo.heap.size wo).alloc (Nat.le_refl _) (.cells #[] 3)).trans (hb1 wo.heap.size (Nat.le_refl _) (by simp))⟩; clear hown1 hb1)
          | (at_builtin; refine app1 rfl _ _ rfl w1 wo.heap.size v1 0 [] rfl F1.out.1 x rfl (by omega) F1.out.2.size ?_; intro v2 w2 hown2 hb2 _ _; have F2 : Hid (w2.ownsRow wo.heap.size 3 1 v2 1 (ints [x]) ∧ Below wo.heap.size wo w2) := ⟨hown2, F1.out.2.trans (hb2 wo.heap.size (Nat.le_refl _) F1.out.2.size)⟩; clear hown2 hb2)
          | (at_builtin; refine appSrc rfl _ _ rfl w2 wo.heap.size v2 1 [x] rfl F2.out.1 ⟨g0, 0, none⟩ j c0 ((xs.take j).reverse) HRL.out rfl (HOLD.out.below F2.out.2) (by omega) F2.out.2.size ?_; intro v3 w3 hown3 hb3 _; have F3 : Hid (Fr w3 w.heap.size w3.heap.size v3 ((xs.take (j + 1)).reverse) ∧ Below w.heap.size w w3) := ⟨(Fr.of_own (by rw [HTK.out, List.length_append, HRL.out]; exact hown3)).wide HR.out.2.size (Nat.le_refl _) (Nat.le_refl _), HR.out.2.trans ((F2.out.2.trans (hb3 wo.heap.size (Nat.le_refl _) F2.out.2.size)).mono HR.out.2.size)⟩; clear hown3 hb3))
        all_goals
          obtain ⟨g3, c3, hv3⟩ := F3.out.1.some_ (by simp; omega)
          rw [show ((xs.take (j + 1)).reverse).length = j + 1 from by simp; omega] at hv3
          subst hv3
          clear F1 F2 HOLD HRL HTK
          go_wp2
          go_roundw
        all_goals first | exact ⟨j + 1, g3, c3, by omega, by go_num, rfl, F3.out⟩ | (simp [intOf]; try omega)

set_option maxHeartbeats 4000000 in
set_option maxRecDepth 100000 in
theorem specNextOrder_std (va : Value) (a : List Int) (w : World) (ha : InI w va a) (na : a.length ≤ 1048576) :
    Calls Try.prog 28 #[va] w fun e w' => ∃ v', e = .returned (.tuple #[v', .bool (nextOk a)]) ∧ Fr w' w.heap.size w'.heap.size v' (nextF a) ∧ Below w.heap.size w w' := by
  obtain ⟨A, c, rfl, hc, hm, hs⟩ := ha
  have HL := Lib.hid (specLadderOk_any A c a w hs na)
  have HS := Lib.hid hs
  clear hs
  cases hlad : ladB a
  case false =>
    have HO : Hid (nextOk a = false ∧ nextF a = []) := by constructor <;> simp [nextF, nextOk, hlad]
    go_enter Try.func28, Try.ntmps28
    go_wp2_with fail
    refine HL.out.mono ?_
    rintro e w1 ⟨rfl, hb1⟩
    rw [hlad]
    have B1 := Lib.hid hb1
    clear hb1
    go_wp2
    go_ret2
    exact ⟨_, by rw [HO.out.1]; rfl, by rw [HO.out.2]; exact Fr.nil _ (Nat.le_refl _), B1.out⟩
  have hl8 := (ladB_t hlad).1
  have LAD := Lib.hid hlad
  clear hlad
  obtain ⟨ba, oa, x0, rfl, -, -, -⟩ := HS.out.at_ (k := 0) (by omega)
  generalize hn : a.length = n at *
  have HN := Lib.hid hn
  clear hn
  go_enter Try.func28, Try.ntmps28
  go_wp2_with fail
  refine HL.out.mono ?_
  rintro e w1 ⟨rfl, hb1⟩
  rw [LAD.out]
  have F1 : Hid (SlI w1 (some ⟨ba, oa, none⟩) a ∧ Below w.heap.size w w1) := ⟨HS.out.below hb1, hb1⟩
  clear hb1 HL
  go_wp2
  go_loopw [4] (fun v wr => ∃ i : Nat, i + 1 ≤ n ∧ v = .int .i64 i ∧ Hid (dnA a = dn a i) ∧ Hid (SlI wr (some ⟨ba, oa, none⟩) a ∧ Below w.heap.size w wr)) (fun v _ => (intOf v).toNat)
  case atStart => exact ⟨n - 1, by omega, by rw [show ((n - 1 : Nat) : Int) = (n : Int) - 1 from by omega], by show _ = _; rw [dnA, HN.out], F1.out⟩
  case round =>
    obtain ⟨i, hi, rfl, HD, HR⟩ := hrel
    clear F1
    cases i with
    | zero =>
      have HO : Hid (nextOk a = false ∧ nextF a = []) := by
        have h : dnA a = 0 := HD.out
        constructor <;> simp [nextF, nextOk, h]
      go_wp2
      go_quiet (fail)
      go_wp2
      go_ret2
      exact ⟨_, by rw [HO.out.1]; rfl, by rw [HO.out.2]; exact Fr.nil _ (Nat.le_refl _), below_drewN HR.out.2 _⟩
    | succ q =>
      obtain ⟨b1, o1, x, he, hx, hxc, _⟩ := HR.out.1.at_ (k := q) (by rw [HN.out]; omega)
      injection he with he; injection he with he1 he2; subst he1; subst he2
      obtain ⟨b1, o1, y, he, hy, hyc, _⟩ := HR.out.1.at_ (k := q + 1) (by rw [HN.out]; omega)
      injection he with he; injection he with he1 he2; subst he1; subst he2
      have HX : Hid (a.getD q 0 = x) := by show _ = _; rw [List.getD_eq_getElem?_getD, hx]; rfl
      have HY : Hid (a.getD (q + 1) 0 = y) := by show _ = _; rw [List.getD_eq_getElem?_getD, hy]; rfl
      clear hx hy
      by_cases hxy : y < x
      · have HD2 : Hid (dnA a = dn a q) := by show _ = _; rw [HD.out, dn, HX.out, HY.out, if_pos hxy]
        go_wp2
        go_quiet (fail)
        go_wp2
        go_roundw
        all_goals first | exact ⟨q, by omega, by go_num, HD2.out, HR.out.1, below_drewN HR.out.2 _⟩ | (simp [intOf]; try omega)
      · have HD2 : Hid (dnA a = q + 1) := by show _ = _; rw [HD.out, dn, HX.out, HY.out, if_neg hxy]
        have HP : Hid (pivA a = x) := by show _ = _; rw [pivA, HD2.out]; exact HX.out
        have dq0 : ((q : Int) + 1 == 0) = false := by simp; omega
        go_wp2
        go_quiet (fail)
        have HR2 : Hid (SlI (wr.drewN nq) (some ⟨ba, oa, none⟩) a ∧ Below w.heap.size w (wr.drewN nq)) := ⟨HR.out.1, below_drewN HR.out.2 nq⟩
        clear HR hxc hyc HD
        generalize wr.drewN nq = w2 at *
        go_wp2
        go_loopw [5] (fun v wr => ∃ k : Nat, q + 1 ≤ k ∧ k < n ∧ v = .int .i64 k ∧ Hid (knA a = kn a x k) ∧ Hid (SlI wr (some ⟨ba, oa, none⟩) a ∧ Below w.heap.size w wr)) (fun v _ => (intOf v).toNat)
        case atStart => exact ⟨n - 1, by omega, by omega, by rw [show ((n - 1 : Nat) : Int) = (n : Int) - 1 from by omega], by show _ = _; rw [knA, HP.out, HN.out], HR2.out⟩
        case round =>
          obtain ⟨k, hk1, hk2, rfl, HK, HR⟩ := hrel
          clear HR2
          obtain ⟨b1, o1, x1, he, hx, hxc, _⟩ := HR.out.1.at_ (k := q) (by rw [HN.out]; omega)
          injection he with he; injection he with he1 he2; subst he1; subst he2
          obtain ⟨b1, o1, z, he, hz, hzc, _⟩ := HR.out.1.at_ (k := k) (by rw [HN.out]; exact hk2)
          injection he with he; injection he with he1 he2; subst he1; subst he2
          obtain rfl : x = x1 := by have h := HX.out; rw [List.getD_eq_getElem?_getD, hx] at h; exact h.symm
          have HZ : Hid (a.getD k 0 = z) := by show _ = _; rw [List.getD_eq_getElem?_getD, hz]; rfl
          clear hx hz
          by_cases hzx : z < x
          · have hkn : q + 1 ≤ k - 1 := by
              rcases Nat.lt_or_ge (q + 1) k with h | h
              · omega
              · obtain rfl : k = q + 1 := by omega
                have h2 := HZ.out
                rw [HY.out] at h2; omega
            obtain ⟨r, rfl⟩ : ∃ r, k = r + 1 := ⟨k - 1, by omega⟩
            have HK2 : Hid (knA a = kn a x r) := by show _ = _; rw [HK.out, kn, HZ.out, if_pos hzx]
            go_wp2
            go_quiet (fail)
            go_wp2
            go_roundw
            all_goals first | exact ⟨r, by omega, by omega, by go_num, HK2.out, HR.out.1, below_drewN HR.out.2 _⟩ | (simp [intOf]; try omega)
          · have HK2 : Hid (knA a = k) := by
              obtain ⟨r, rfl⟩ : ∃ r, k = r + 1 := ⟨k - 1, by omega⟩
              show _ = _; rw [HK.out, kn, HZ.out, if_neg hzx]
            have HO : Hid (nextOk a = true ∧ nextF a = nextL a) := by
              have h : nextOk a = true := by unfold nextOk; rw [LAD.out, HD2.out]; simp
              exact ⟨h, by unfold nextF; rw [if_pos h]⟩
            have HSN : Hid (((a.set q z).set k x).take (q + 1) ++ (((a.set q z).set k x).drop (q + 1)).reverse = nextL a) := spec_next HD2.out HK2.out hk1 (by rw [HN.out]; exact hk2) HX.out HZ.out
            have HSF : Hid ((((a.set q z).set k x).drop (q + 1)).Pairwise fun u v => v < u) := spec_fall HD2.out HK2.out hk1 (by rw [HN.out]; exact hk2) HX.out
            go_wp2
            go_quiet (fail)
            have HR3 : Hid (SlI (wr.drewN nq) (some ⟨ba, oa, none⟩) a ∧ Below w.heap.size w (wr.drewN nq)) := ⟨HR.out.1, below_drewN HR.out.2 nq⟩
            clear HR hxc hzc HK
            generalize wr.drewN nq = w4 at *
            go_wp2_with (at_builtin; refine appSrc rfl _ _ rfl (w4.alloc (.cells #[] 3)) w4.heap.size _ 0 [] rfl (World.ownsRow_made w4 #[] 0 (Nat.le_refl _) (by unfold maxLen; omega) rfl) ⟨ba, oa, none⟩ n c a HN.out rfl (HR3.out.1.alloc _) (by omega) (by simp) ?_; intro v5 w5 hown hb _; have F5 : Hid (Fr w5 w4.heap.size w5.heap.size v5 a ∧ Below w4.heap.size w4 w5) := ⟨Fr.of_own (by rw [HN.out]; simpa using hown), ((Below.refl w4.heap.size w4).alloc (Nat.le_refl _) (.cells #[] 3)).trans (hb w4.heap.size (Nat.le_refl _) (by simp))⟩; clear hown hb; obtain ⟨g5, c5, hv5⟩ := F5.out.1.some_ (by rw [HN.out]; omega); rw [HN.out] at hv5; subst hv5; obtain ⟨P5, c6, he5, hc5, hm5⟩ := F5.out.1.form; injection he5 with k1 k2 k3; subst k3; clear k1 k2; rw [HN.out] at hc5; unfold maxLen at hm5; have hkc : ¬ c5 = q + 1 := (by omega); obtain ⟨b1, o1, x1, he, hx, hxc, hbl⟩ := (HR3.out.1.below F5.out.2).at_ (k := q) (by rw [HN.out]; omega); injection he with he; injection he with he1 he2; subst he1; subst he2; obtain ⟨b1, o1, z1, he, hz, hzc, _⟩ := (HR3.out.1.below F5.out.2).at_ (k := k) (by rw [HN.out]; exact hk2); injection he with he; injection he with he1 he2; subst he1; subst he2; obtain rfl : x = x1 := (by have h := HX.out; rw [List.getD_eq_getElem?_getD, hx] at h; exact h.symm); obtain rfl : z = z1 := (by have h := HZ.out; rw [List.getD_eq_getElem?_getD, hz] at h; exact h.symm); obtain ⟨_, _, _, he, _, _, hba⟩ := HR3.out.1.at_ (k := q) (by rw [HN.out]; omega); injection he with he; injection he with he1 he2; subst he1; clear he2; obtain ⟨g6, _, hg6, hlo6, -, -, yc1, yf1, hst1⟩ := F5.out.1.at_ (k := q) (by rw [HN.out]; omega); obtain rfl : g5 = g6 := congrArg Addr.block (Option.some.inj hg6); have hne : ¬ ba = g5 := (by omega); obtain ⟨s1, s2⟩ := hst1 z; obtain ⟨g6, _, hg6, -, -, -, yc2, yf2, hst2⟩ := s1.at_ (k := k) (by rw [List.length_set, HN.out]; exact hk2); obtain rfl : g5 = g6 := congrArg Addr.block (Option.some.inj hg6); obtain ⟨t1, t2⟩ := hst2 x; have F6 : Hid (Fr ((w5.setCell ⟨g5, q, none⟩ (.int .i64 z)).setCell ⟨g5, k, none⟩ (.int .i64 x)) w4.heap.size w5.heap.size (.slice (some ⟨g5, 0, none⟩) n c5) ((a.set q z).set k x) ∧ Keep w4.heap.size w5.heap.size w5 ((w5.setCell ⟨g5, q, none⟩ (.int .i64 z)).setCell ⟨g5, k, none⟩ (.int .i64 x))) := ⟨t1, s2.trans t2⟩; clear hst1 hst2 s1 s2 t1 t2 hx hz hg6)
            have F7 : Hid (SlI ((w5.setCell ⟨g5, q, none⟩ (.int .i64 z)).setCell ⟨g5, k, none⟩ (.int .i64 x)) (some ⟨g5, 0, none⟩) ((a.set q z).set k x) ∧ Below w.heap.size w ((w5.setCell ⟨g5, q, none⟩ (.int .i64 z)).setCell ⟨g5, k, none⟩ (.int .i64 x))) :=
              ⟨F6.out.1.sl, HR3.out.2.trans ((F5.out.2.trans (F6.out.2.below (Nat.le_refl _) F5.out.2.size)).mono HR3.out.2.size)⟩
            clear F5 F6 HR3 yc1 yf1 yc2 yf2 hxc hzc hbl hba hlo6
            generalize (w5.setCell ⟨g5, q, none⟩ (.int .i64 z)).setCell ⟨g5, k, none⟩ (.int .i64 x) = w6 at *
            have hll : ((a.set q z).set k x).length = n := by rw [List.length_set, List.length_set, HN.out]
            generalize (a.set q z).set k x = L at *
            have hdl : (L.drop (q + 1)).length = n - (q + 1) := by rw [List.length_drop, hll]
            have htl : (L.take (q + 1)).length = q + 1 := by rw [List.length_take, hll]; omega
            have hC := l03Sort_fall (some ⟨g5, 0 + (q + 1), none⟩) (c5 - (q + 1)) (L.drop (q + 1)) w6 (F7.out.1.drop_ (q + 1)) (by omega) HSF.out
            rw [hdl, Nat.zero_add] at hC
            have HTL := Lib.hid htl
            have HDL := Lib.hid hdl
            clear hdl htl hll
            refine hC.mono ?_
            rintro e w7 ⟨v7, rfl, hf7, hb7⟩
            obtain ⟨g7, c7, hv7⟩ := hf7.some_ (by rw [List.length_reverse, HDL.out]; omega)
            rw [List.length_reverse, HDL.out] at hv7
            subst hv7
            have F8 : Hid (SlI w7 (some ⟨g7, 0, none⟩) ((L.drop (q + 1)).reverse) ∧ SlI w7 (some ⟨g5, 0, none⟩) (L.take (q + 1)) ∧ Below w.heap.size w w7) := ⟨hf7.sl, (F7.out.1.below hb7).take_ _, F7.out.2.trans (hb7.mono F7.out.2.size)⟩
            have HRV : Hid (((L.drop (q + 1)).reverse).length = n - (q + 1)) := by show _ = _; rw [List.length_reverse, HDL.out]
            have HNL : Hid ((nextL a).length = q + 1 + (n - (q + 1))) := by show _ = _; rw [← HSN.out, List.length_append, HTL.out, HRV.out]
            clear hf7 hb7 hC F7
            go_wp2_with (first
              | (at_builtin; refine appSrc rfl _ _ rfl (w7.alloc (.cells #[] 3)) w7.heap.size _ 0 [] rfl (World.ownsRow_made w7 #[] 0 (Nat.le_refl _) (by unfold maxLen; omega) rfl) ⟨g5, 0, none⟩ (q + 1) c5 (L.take (q + 1)) HTL.out rfl (F8.out.2.1.alloc _) (by omega) (by simp) ?_; intro v8 w8 hown hb _; have F9 : Hid (w8.ownsRow w7.heap.size 3 1 v8 (q + 1) (ints (L.take (q + 1))) ∧ Below w7.heap.size w7 w8) := ⟨by simpa using hown, ((Below.refl w7.heap.size w7).alloc (Nat.le_refl _) (.cells #[] 3)).trans (hb w7.heap.size (Nat.le_refl _) (by simp))⟩; clear hown hb)
              | (at_builtin; refine appSrc rfl _ _ rfl w8 w7.heap.size v8 (q + 1) (L.take (q + 1)) rfl F9.out.1 ⟨g7, 0, none⟩ (n - (q + 1)) c7 ((L.drop (q + 1)).reverse) HRV.out rfl (F8.out.1.below F9.out.2) (by omega) F9.out.2.size ?_; intro v9 w9 hown hb _; have F10 : Hid (Fr w9 w.heap.size w9.heap.size v9 (nextL a) ∧ Below w.heap.size w w9) := ⟨(Fr.of_own (by rw [HNL.out, ← HSN.out]; exact hown)).wide F8.out.2.2.size (Nat.le_refl _) (Nat.le_refl _), F8.out.2.2.trans ((F9.out.2.trans (hb w7.heap.size (Nat.le_refl _) F9.out.2.size)).mono F8.out.2.2.size)⟩; clear hown hb))
            go_ret2
            exact ⟨_, by rw [HO.out.1]; rfl, by rw [HO.out.2]; exact F10.out.1, F10.out.2⟩
end Go.Proofs.Ytnjomfmmnkjhfaa
