/- The reference's orders and tables. -/
import Derived.Test.YtpjbgcflepebgaaDoorGq
import Derived.Test.YtpjbgcflepebgaaDoorSt
import Derived.Test.YtpjbgcflepebgaaDoorCu
import Derived.Deep.Cut
import Derived.Deep.CutRange
namespace Go.Proofs.YtpjbgcflepebgaaDoor
open Go.ChangeShapes Go.WideShapes Go.ChangeAt Go.RowKit

def keyOf (xs : List Int) (i : Int) : Int := xs.getD i.toNat 0
theorem keyOf_at {xs : List Int} {k : Nat} {x : Int} (h : xs[k]? = some x) : keyOf xs (k : Int) = x := by
  rw [keyOf, Int.toNat_natCast, List.getD_eq_getElem?_getD, h]; rfl
theorem Fr.someB {w : World} {lo hi : Nat} {v : Value} {xs : List Int} (h : Fr w lo hi v xs) (hl : 0 < xs.length) : ∃ g c, v = .slice (some ⟨g, 0, none⟩) xs.length c := by
  obtain ⟨A, c, rfl, _⟩ := h.form
  obtain ⟨g, _, rfl, _⟩ := h.at_ (k := 0) hl
  exact ⟨g, c, rfl⟩
theorem l09Form {w : World} {lo hi j : Nat} {v : Value} {xs : List Int} (h : Fr w lo hi v xs) (hl : xs.length = j + 1) : ∃ g c, v = .slice (some ⟨g, 0, none⟩) (j + 1) c := by
  obtain ⟨g, c, e⟩ := h.someB (by omega)
  exact ⟨g, c, by rw [e, hl]⟩
theorem l09Fin {w wo w2 w3 : World} {v3 : Value} {P : List Int} {j a b : Nat} {ys zs : List Int} (hn : P = ys ++ zs) (hl : (ys ++ zs).length = j + 1) (hown : w3.ownsRow wo.heap.size 3 1 v3 (a + b) (ints (ys ++ zs))) (hj : a + b = j + 1)
    (hb : Below w.heap.size w wo) (h2 : Below wo.heap.size wo w2) (h3 : ∀ B, B ≤ wo.heap.size → B ≤ w2.heap.size → Below B w2 w3) : Fr w3 w.heap.size w3.heap.size v3 P ∧ Below w.heap.size w w3 := by
  subst hn
  exact ⟨(Fr.of_own (by rw [hl, ← hj]; exact hown)).wide hb.size (Nat.le_refl _) (Nat.le_refl _), hb.trans ((h2.trans (h3 wo.heap.size (Nat.le_refl _) h2.size)).mono hb.size)⟩
set_option maxHeartbeats 8000000 in
set_option maxRecDepth 100000 in
theorem l09Order_any (A : Option Addr) (c : Nat) (xs : List Int) (w : World) (hs : SlI w A xs) (hn : xs.length ≤ 1024) :
    Calls Tryd.prog 32 #[.slice A xs.length c] w fun e w' => ∃ v', e = .returned v' ∧ Fr w' w.heap.size w'.heap.size v' (insF (keyOf xs) (idxs xs.length)) ∧ Below w.heap.size w w' := by
  have HS := Lib.hid hs
  clear hs
  generalize hl : xs.length = n at *
  have HL := Lib.hid hl
  clear hl
  go_enter Tryd.func32, Tryd.ntmps32
  go_wp2
  go_loopw [3, 11] (fun v i wr => ∃ (j g0 c0 : Nat), j ≤ n ∧ i = .int .i64 j ∧ v = .slice (some ⟨g0, 0, none⟩) j c0 ∧ Hid (Fr wr w.heap.size wr.heap.size (.slice (some ⟨g0, 0, none⟩) j c0) (insF (keyOf xs) ((idxs n).take j)) ∧ Below w.heap.size w wr)) (fun _ i _ => n - (intOf i).toNat)
  case atStart => exact ⟨0, _, _, Nat.zero_le _, rfl, rfl, Fr.of_own (xs := []) (World.ownsRow_made w #[] 0 (Nat.le_refl _) (by unfold maxLen; omega) rfl), (Below.refl _ w).alloc (Nat.le_refl _) _⟩
  case round =>
    obtain ⟨j, g0, c0, hj, rfl, rfl, HR⟩ := hrel
    obtain ⟨wo, rfl⟩ : ∃ W, W = wr := ⟨wr, rfl⟩
    by_cases hlt : j < n
    case neg =>
      obtain rfl : j = n := by omega
      have h := HR.out.1
      rw [List.take_of_length_le (by rw [idxs_length]; exact Nat.le_refl _)] at h
      have HF := Lib.hid h
      clear h
      go_wp2
      go_ret
      exact ⟨_, rfl, HF.out, HR.out.2⟩
    have dx : decide ((j : Int) < n) = true := by simp; exact hlt
    obtain ⟨b1, o1, x, rfl, hx1, hx2, _⟩ := (HS.out.below HR.out.2).at_ (k := j) (by rw [HL.out]; exact hlt)
    have HX := Lib.hid hx1
    have hPl : (insF (keyOf xs) ((idxs n).take j)).length = j := by rw [insF_length, List.length_take, idxs_length]; omega
    have HPL := Lib.hid hPl
    have hmem : ∀ y ∈ insF (keyOf xs) ((idxs n).take j), ∃ m : Nat, y = m ∧ m < n := fun y hy => by
      have := List.mem_of_mem_take ((insF_perm _ _).mem_iff.1 hy)
      obtain ⟨y1, y2⟩ := idxs_mem.1 this
      exact ⟨y.toNat, by omega, by omega⟩
    have HM := Lib.hid hmem
    clear hmem hPl
    have HN : Hid (insF (keyOf xs) ((idxs n).take (j + 1)) = insR (keyOf xs) (insF (keyOf xs) ((idxs n).take j)) j) := insF_take (idxs_get hlt)
    generalize insF (keyOf xs) ((idxs n).take j) = P at *
    have hc0 : j ≤ c0 := by
      obtain ⟨A', c', he, hc, _⟩ := HR.out.1.form
      injection he with _ _ e3
      subst e3
      have := HPL.out
      omega
    have hcm : c0 ≤ 9223372036854775807 := by
      obtain ⟨A', c', he, _, hm⟩ := HR.out.1.form
      injection he with _ _ e3
      subst e3
      unfold maxLen at hm; omega
    clear hx1
    go_wp2
    go_loop [6] (fun v => ∃ k : Nat, k ≤ j ∧ v = .int .i64 k ∧ Hid (posR (keyOf xs) P j j = posR (keyOf xs) P j k)) (fun v => (intOf v).toNat)
    case atStart => exact ⟨j, Nat.le_refl _, rfl, rfl⟩
    case round =>
      obtain ⟨k, hk, rfl, HK⟩ := hrel
      have stop : posR (keyOf xs) P j k = k → Hid (posR (keyOf xs) P j P.length = k) := fun h => by show _ = _; rw [HPL.out, HK.out, h]
      have STOP := Lib.hid stop
      clear stop
      by_cases hgo : ∃ q y, k = q + 1 ∧ P[q]? = some y ∧ keyOf xs y < keyOf xs j
      · obtain ⟨q, y, rfl, hy, hlt2⟩ := hgo
        obtain ⟨m, rfl, hm⟩ := HM.out y (List.mem_of_getElem? hy)
        obtain ⟨g1, y1, hg1, -, -, hy1, hyc, -, -⟩ := HR.out.1.at_ (k := q) (by rw [HPL.out]; omega)
        obtain rfl : g0 = g1 := congrArg Addr.block (Option.some.inj hg1)
        obtain rfl : (m : Int) = y1 := by rw [hy] at hy1; injection hy1
        obtain ⟨b2, o2, z, e2, hz, hzc, _⟩ := (HS.out.below HR.out.2).at_ (k := m) (by rw [HL.out]; exact hm)
        injection e2 with e2; injection e2 with r1 r2; subst r1; subst r2
        rw [keyOf_at hz, keyOf_at HX.out] at hlt2
        have HG : Hid (posR (keyOf xs) P j (q + 1) = posR (keyOf xs) P j q) := posR_go hy (by rw [keyOf_at hz, keyOf_at HX.out]; exact hlt2)
        clear hg1 hy hy1 hz
        go_wp2
        go_round
        all_goals first | exact ⟨q, by omega, by go_num, HK.out.trans HG.out⟩ | (simp [intOf]; try omega)
      have HST : Hid (posR (keyOf xs) P j P.length = k) := STOP.out (by
        cases k with
        | zero => rfl
        | succ q =>
          obtain ⟨y, hy⟩ : ∃ y, P[q]? = some y := ⟨_, List.getElem?_eq_getElem (by rw [HPL.out]; omega)⟩
          exact posR_stop hy (fun h => hgo ⟨q, y, rfl, hy, h⟩))
      have HNEW : Hid (insF (keyOf xs) ((idxs n).take (j + 1)) = (P.take k ++ [(j : Int)]) ++ P.drop k) := by
        show _ = _
        rw [HN.out, insR, HST.out]; simp
      have HTL : Hid ((P.take k).length = k ∧ (P.drop k).length = j - k ∧ (P.take k ++ [(j : Int)]).length = k + 1 ∧ ((P.take k ++ [(j : Int)]) ++ P.drop k).length = j + 1) := by
        have := HPL.out
        refine ⟨?_, ?_, ?_, ?_⟩ <;> simp <;> omega
      have HOLD : Hid (SlI wo (some ⟨g0, 0, none⟩) P) := HR.out.1.sl
      by_cases hz : k = 0
      case pos =>
        have tz : decide ((0 : Int) < (k : Int)) = false := decide_eq_false (by omega)
        have i1 : (0 : Int) ≤ (k : Int) := by omega
        have i2 : (k : Int) ≤ (j : Int) := by omega
        have i4 : (k : Int) ≤ (c0 : Int) := by omega
        have tz2 : decide (0 < k) = false := decide_eq_false (by omega)
        have tz3 : ¬ 0 < k := by omega
        have tz4 : ¬ (0 : Int) < (k : Int) := by omega
        clear hgo hz
        have HJ : Hid (k + 1 + (j - k) = j + 1) := by show _ = _; omega
        have HNL : Hid ((insF (keyOf xs) ((idxs n).take (j + 1))).length = j + 1) := by show _ = _; rw [HNEW.out, HTL.out.2.2.2]
        have hq1 : Hid (0 + k ≤ 1048576) := by show _ ≤ _; omega
        have hq2 : Hid (k ≤ 1048576) := by show _ ≤ _; omega
        have hq3 : Hid (k + 1 + (j - k) ≤ 1048576) := by show _ ≤ _; omega
        have hq4 : Hid (k + 1 + 0 ≤ 1048576) := by show _ ≤ _; omega
        by_cases hcap : c0 = k
        · replace hcap := hcap.symm; subst hcap
          have HNC : Hid (insF (keyOf xs) ((idxs n).take (j + 1)) = (P.take k ++ [(j : Int)]) ++ [] ∧ ((P.take k ++ [(j : Int)]) ++ []).length = j + 1 ∧ k + 1 + 0 = j + 1) := by
            have hd : P.drop k = [] := List.drop_of_length_le (by have := HPL.out; omega)
            have h1 := HNEW.out
            have h2 := HTL.out.2.2.2
            rw [hd] at h1 h2
            exact ⟨h1, h2, by omega⟩
          have HFC : Hid (∀ (w2 w3 : World) (v3 : Value), w3.ownsRow wo.heap.size 3 1 v3 (k + 1 + 0) (ints ((P.take k ++ [(j : Int)]) ++ [])) → Below wo.heap.size wo w2 → (∀ B, B ≤ wo.heap.size → B ≤ w2.heap.size → Below B w2 w3) → Fr w3 w.heap.size w3.heap.size v3 (insF (keyOf xs) ((idxs n).take (j + 1))) ∧ Below w.heap.size w w3) := fun w2 w3 v3 h1 h2 h3 => l09Fin (a := k + 1) (b := 0) HNC.out.1 HNC.out.2.1 h1 HNC.out.2.2 HR.out.2 h2 h3
          go_wp2_with (first
            | (at_builtin; refine appSrc rfl _ _ rfl (wo.alloc (.cells #[] 3)) wo.heap.size _ 0 [] rfl (World.ownsRow_made wo #[] 0 (Nat.le_refl _) (by unfold maxLen; omega) rfl) ⟨g0, 0, none⟩ k k (P.take k) HTL.out.1 rfl (SlI.take_ (SlI.alloc HOLD.out _) _) hq1.out (by simp) ?_; intro v1 w1 hown1 hb1 _; rw [Nat.zero_add, List.nil_append] at hown1; have F1 : Hid (w1.ownsRow wo.heap.size 3 1 v1 k (ints (P.take k)) ∧ Below wo.heap.size wo w1) := ⟨hown1, ((Below.refl wo.heap.size wo).alloc (Nat.le_refl _) (.cells #[] 3)).trans (hb1 wo.heap.size (Nat.le_refl _) (by simp))⟩; clear hown1 hb1)
            | (at_builtin; refine app1 rfl _ _ rfl w1 wo.heap.size v1 k (P.take k) rfl F1.out.1 (j : Int) rfl hq2.out F1.out.2.size ?_; intro v2 w2 hown2 hb2 _ _; have F2 : Hid (w2.ownsRow wo.heap.size 3 1 v2 (k + 1) (ints (P.take k ++ [(j : Int)])) ∧ Below wo.heap.size wo w2) := ⟨hown2, F1.out.2.trans (hb2 wo.heap.size (Nat.le_refl _) F1.out.2.size)⟩; clear hown2 hb2)
            | (at_builtin; refine appSrc rfl _ _ rfl w2 wo.heap.size v2 (k + 1) (P.take k ++ [(j : Int)]) rfl F2.out.1 ⟨g0, 0, none⟩ 0 0 [] rfl rfl SlI.nil hq4.out F2.out.2.size ?_; intro v3 w3 hown3 hb3 _; have F3 : Hid (Fr w3 w.heap.size w3.heap.size v3 (insF (keyOf xs) ((idxs n).take (j + 1))) ∧ Below w.heap.size w w3) := HFC.out w2 w3 v3 hown3 F2.out.2 hb3; clear hown3 hb3; obtain ⟨g3, c3, hv3⟩ := l09Form F3.out.1 HNL.out; subst hv3))
          clear HNEW
          all_goals exact ⟨⟨j + 1, g3, c3, by omega, by go_num, rfl, F3.out⟩, by simp [intOf]; try omega⟩
        · have HDROP : Hid (SlI wo (some ⟨g0, k, none⟩) (P.drop k)) := by
            have := SlI.drop_ HOLD.out k
            rw [Nat.zero_add] at this; exact this
          go_wp2_with (first
            | (at_builtin; refine appSrc rfl _ _ rfl (wo.alloc (.cells #[] 3)) wo.heap.size _ 0 [] rfl (World.ownsRow_made wo #[] 0 (Nat.le_refl _) (by unfold maxLen; omega) rfl) ⟨g0, 0, none⟩ k c0 (P.take k) HTL.out.1 rfl (SlI.take_ (SlI.alloc HOLD.out _) _) hq1.out (by simp) ?_; intro v1 w1 hown1 hb1 _; rw [Nat.zero_add, List.nil_append] at hown1; have F1 : Hid (w1.ownsRow wo.heap.size 3 1 v1 k (ints (P.take k)) ∧ Below wo.heap.size wo w1) := ⟨hown1, ((Below.refl wo.heap.size wo).alloc (Nat.le_refl _) (.cells #[] 3)).trans (hb1 wo.heap.size (Nat.le_refl _) (by simp))⟩; clear hown1 hb1)
            | (at_builtin; refine app1 rfl _ _ rfl w1 wo.heap.size v1 k (P.take k) rfl F1.out.1 (j : Int) rfl hq2.out F1.out.2.size ?_; intro v2 w2 hown2 hb2 _ _; have F2 : Hid (w2.ownsRow wo.heap.size 3 1 v2 (k + 1) (ints (P.take k ++ [(j : Int)])) ∧ Below wo.heap.size wo w2) := ⟨hown2, F1.out.2.trans (hb2 wo.heap.size (Nat.le_refl _) F1.out.2.size)⟩; clear hown2 hb2)
            | (at_builtin;  refine appSrc rfl _ _ rfl w2 wo.heap.size v2 (k + 1) (P.take k ++ [(j : Int)]) rfl F2.out.1 ⟨g0, k, none⟩ (j - k) (c0 - k) (P.drop k) HTL.out.2.1 rfl (HDROP.out.below F2.out.2) hq3.out F2.out.2.size ?_; intro v3 w3 hown3 hb3 _; have F3 : Hid (Fr w3 w.heap.size w3.heap.size v3 (insF (keyOf xs) ((idxs n).take (j + 1))) ∧ Below w.heap.size w w3) := l09Fin (a := k + 1) (b := j - k) HNEW.out HTL.out.2.2.2 hown3 HJ.out HR.out.2 F2.out.2 hb3; clear hown3 hb3; obtain ⟨g3, c3, hv3⟩ := l09Form F3.out.1 HNL.out; subst hv3))
          clear HNEW
          all_goals exact ⟨⟨j + 1, g3, c3, by omega, by go_num, rfl, F3.out⟩, by simp [intOf]; try omega⟩
      case neg =>
        obtain ⟨q, rfl⟩ : ∃ q, k = q + 1 := ⟨k - 1, by omega⟩
        obtain ⟨y, hy⟩ : ∃ y, P[q]? = some y := ⟨_, List.getElem?_eq_getElem (by rw [HPL.out]; omega)⟩
        have hlt2 : ¬ keyOf xs y < keyOf xs j := fun h => hgo ⟨q, y, rfl, hy, h⟩
        clear hgo
        obtain ⟨m, rfl, hm⟩ := HM.out y (List.mem_of_getElem? hy)
        obtain ⟨g1, y1, hg1, -, -, hy1, hyc, -, -⟩ := HR.out.1.at_ (k := q) (by rw [HPL.out]; omega)
        obtain rfl : g0 = g1 := congrArg Addr.block (Option.some.inj hg1)
        obtain rfl : (m : Int) = y1 := by rw [hy] at hy1; injection hy1
        obtain ⟨b2, o2, z, e2, hz, hzc, _⟩ := (HS.out.below HR.out.2).at_ (k := m) (by rw [HL.out]; exact hm)
        injection e2 with e2; injection e2 with r1 r2; subst r1; subst r2
        rw [keyOf_at hz, keyOf_at HX.out] at hlt2
        have i1 : (0 : Int) ≤ (q : Int) + 1 := by omega
        have i2 : (q : Int) + 1 ≤ (j : Int) := by omega
        have i3 : ((q : Int) + 1).toNat = q + 1 := by omega
        have i4 : (q : Int) + 1 ≤ (c0 : Int) := by omega
        clear hg1 hy hy1 hz
        have HJ : Hid ((q + 1) + 1 + (j - (q + 1)) = j + 1) := by show _ = _; omega
        have HNL : Hid ((insF (keyOf xs) ((idxs n).take (j + 1))).length = j + 1) := by show _ = _; rw [HNEW.out, HTL.out.2.2.2]
        have hq1 : Hid (0 + (q + 1) ≤ 1048576) := by show _ ≤ _; omega
        have hq2 : Hid ((q + 1) ≤ 1048576) := by show _ ≤ _; omega
        have hq3 : Hid ((q + 1) + 1 + (j - (q + 1)) ≤ 1048576) := by show _ ≤ _; omega
        have hq4 : Hid ((q + 1) + 1 + 0 ≤ 1048576) := by show _ ≤ _; omega
        by_cases hcap : c0 = (q + 1)
        · replace hcap := hcap.symm; subst hcap
          have HNC : Hid (insF (keyOf xs) ((idxs n).take (j + 1)) = (P.take (q + 1) ++ [(j : Int)]) ++ [] ∧ ((P.take (q + 1) ++ [(j : Int)]) ++ []).length = j + 1 ∧ (q + 1) + 1 + 0 = j + 1) := by
            have hd : P.drop (q + 1) = [] := List.drop_of_length_le (by have := HPL.out; omega)
            have h1 := HNEW.out
            have h2 := HTL.out.2.2.2
            rw [hd] at h1 h2
            exact ⟨h1, h2, by omega⟩
          have HFC : Hid (∀ (w2 w3 : World) (v3 : Value), w3.ownsRow wo.heap.size 3 1 v3 ((q + 1) + 1 + 0) (ints ((P.take (q + 1) ++ [(j : Int)]) ++ [])) → Below wo.heap.size wo w2 → (∀ B, B ≤ wo.heap.size → B ≤ w2.heap.size → Below B w2 w3) → Fr w3 w.heap.size w3.heap.size v3 (insF (keyOf xs) ((idxs n).take (j + 1))) ∧ Below w.heap.size w w3) := fun w2 w3 v3 h1 h2 h3 => l09Fin (a := (q + 1) + 1) (b := 0) HNC.out.1 HNC.out.2.1 h1 HNC.out.2.2 HR.out.2 h2 h3
          go_wp2_with (first
            | (at_builtin; refine appSrc rfl _ _ rfl (wo.alloc (.cells #[] 3)) wo.heap.size _ 0 [] rfl (World.ownsRow_made wo #[] 0 (Nat.le_refl _) (by unfold maxLen; omega) rfl) ⟨g0, 0, none⟩ (q + 1) (q + 1) (P.take (q + 1)) HTL.out.1 rfl (SlI.take_ (SlI.alloc HOLD.out _) _) hq1.out (by simp) ?_; intro v1 w1 hown1 hb1 _; rw [Nat.zero_add, List.nil_append] at hown1; have F1 : Hid (w1.ownsRow wo.heap.size 3 1 v1 (q + 1) (ints (P.take (q + 1))) ∧ Below wo.heap.size wo w1) := ⟨hown1, ((Below.refl wo.heap.size wo).alloc (Nat.le_refl _) (.cells #[] 3)).trans (hb1 wo.heap.size (Nat.le_refl _) (by simp))⟩; clear hown1 hb1)
            | (at_builtin; refine app1 rfl _ _ rfl w1 wo.heap.size v1 (q + 1) (P.take (q + 1)) rfl F1.out.1 (j : Int) rfl hq2.out F1.out.2.size ?_; intro v2 w2 hown2 hb2 _ _; have F2 : Hid (w2.ownsRow wo.heap.size 3 1 v2 ((q + 1) + 1) (ints (P.take (q + 1) ++ [(j : Int)])) ∧ Below wo.heap.size wo w2) := ⟨hown2, F1.out.2.trans (hb2 wo.heap.size (Nat.le_refl _) F1.out.2.size)⟩; clear hown2 hb2)
            | (at_builtin; refine appSrc rfl _ _ rfl w2 wo.heap.size v2 ((q + 1) + 1) (P.take (q + 1) ++ [(j : Int)]) rfl F2.out.1 ⟨g0, 0, none⟩ 0 0 [] rfl rfl SlI.nil hq4.out F2.out.2.size ?_; intro v3 w3 hown3 hb3 _; have F3 : Hid (Fr w3 w.heap.size w3.heap.size v3 (insF (keyOf xs) ((idxs n).take (j + 1))) ∧ Below w.heap.size w w3) := HFC.out w2 w3 v3 hown3 F2.out.2 hb3; clear hown3 hb3; obtain ⟨g3, c3, hv3⟩ := l09Form F3.out.1 HNL.out; subst hv3))
          clear HNEW
          all_goals exact ⟨⟨j + 1, g3, c3, by omega, by go_num, rfl, F3.out⟩, by simp [intOf]; try omega⟩
        · have HDROP : Hid (SlI wo (some ⟨g0, (q + 1), none⟩) (P.drop (q + 1))) := by
            have := SlI.drop_ HOLD.out (q + 1)
            rw [Nat.zero_add] at this; exact this
          go_wp2_with (first
            | (at_builtin; refine appSrc rfl _ _ rfl (wo.alloc (.cells #[] 3)) wo.heap.size _ 0 [] rfl (World.ownsRow_made wo #[] 0 (Nat.le_refl _) (by unfold maxLen; omega) rfl) ⟨g0, 0, none⟩ (q + 1) c0 (P.take (q + 1)) HTL.out.1 rfl (SlI.take_ (SlI.alloc HOLD.out _) _) hq1.out (by simp) ?_; intro v1 w1 hown1 hb1 _; rw [Nat.zero_add, List.nil_append] at hown1; have F1 : Hid (w1.ownsRow wo.heap.size 3 1 v1 (q + 1) (ints (P.take (q + 1))) ∧ Below wo.heap.size wo w1) := ⟨hown1, ((Below.refl wo.heap.size wo).alloc (Nat.le_refl _) (.cells #[] 3)).trans (hb1 wo.heap.size (Nat.le_refl _) (by simp))⟩; clear hown1 hb1)
            | (at_builtin; refine app1 rfl _ _ rfl w1 wo.heap.size v1 (q + 1) (P.take (q + 1)) rfl F1.out.1 (j : Int) rfl hq2.out F1.out.2.size ?_; intro v2 w2 hown2 hb2 _ _; have F2 : Hid (w2.ownsRow wo.heap.size 3 1 v2 ((q + 1) + 1) (ints (P.take (q + 1) ++ [(j : Int)])) ∧ Below wo.heap.size wo w2) := ⟨hown2, F1.out.2.trans (hb2 wo.heap.size (Nat.le_refl _) F1.out.2.size)⟩; clear hown2 hb2)
            | (at_builtin;  refine appSrc rfl _ _ rfl w2 wo.heap.size v2 ((q + 1) + 1) (P.take (q + 1) ++ [(j : Int)]) rfl F2.out.1 ⟨g0, (q + 1), none⟩ (j - (q + 1)) (c0 - (q + 1)) (P.drop (q + 1)) HTL.out.2.1 rfl (HDROP.out.below F2.out.2) hq3.out F2.out.2.size ?_; intro v3 w3 hown3 hb3 _; have F3 : Hid (Fr w3 w.heap.size w3.heap.size v3 (insF (keyOf xs) ((idxs n).take (j + 1))) ∧ Below w.heap.size w w3) := l09Fin (a := (q + 1) + 1) (b := j - (q + 1)) HNEW.out HTL.out.2.2.2 hown3 HJ.out HR.out.2 F2.out.2 hb3; clear hown3 hb3; obtain ⟨g3, c3, hv3⟩ := l09Form F3.out.1 HNL.out; subst hv3))
          clear HNEW
          all_goals exact ⟨⟨j + 1, g3, c3, by omega, by go_num, rfl, F3.out⟩, by simp [intOf]; try omega⟩
end Go.Proofs.YtpjbgcflepebgaaDoor
