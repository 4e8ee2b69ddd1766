/- Plans that are drawn from a code: the walks. -/
import Derived.Test.YtofpaekokmkhgaaGreatDoorMbh
import Derived.Test.YtofpaekokmkhgaaGreatDoorMaf
import Derived.Test.YtofpaekokmkhgaaGreatDoorMac
import Derived.Test.YtofpaekokmkhgaaGreatDoorMah
import Derived.Test.YtofpaekokmkhgaaGreatDoorMai
namespace Go.Proofs.YtofpaekokmkhgaaGreatDoor
open Go.ChangeShapes Go.WideShapes Go.ChangeAt Go.RowKit

theorem negL_take {R : List Int} {k : Nat} {x : Int} (h : R[k]? = some x) : negL (R.take (k + 1)) = negL (R.take k) ++ [-x] := by
  rw [take_snoc h, negL, List.map_append]; rfl
theorem turnP_take {P : List (List Int)} {k : Nat} {R : List Int} (h : P[k]? = some R) : turnP (P.take (k + 1)) = turnP (P.take k) ++ [negL R] := by
  rw [take_snoc h, turnP, List.map_append]; rfl
/-- Rows made one behind the other. -/
structure TuP (w : World) (lo : Nat) (wr : World) (gv : Value) (GS : List (List Int)) : Prop where
  ow : OwS wr lo wr.heap.size gv GS
  be : Below w.heap.size w wr
  lo0 : w.heap.size ≤ lo
  lo1 : lo ≤ wr.heap.size
theorem TuP.start (w : World) : TuP w w.heap.size (w.alloc (.cells #[] 23)) (.slice (some ⟨w.heap.size, 0, none⟩) 0 0) [] :=
  ⟨⟨[], rfl, World.ownsRow_lit (base := w.heap.size) (e := 23) (size := 1) w #[] 0 (Nat.le_refl _) (by unfold maxLen; omega) rfl, fun g hg => by simp only [Value.ownBlock, Option.some.injEq] at hg; subst hg; simp, by simp, Nat.le_refl _, by simp, by simp⟩,
   (Below.refl _ w).alloc (Nat.le_refl _) _, Nat.le_refl _, by simp⟩
theorem TuP.next {w wr W w2 : World} {lo : Nat} {gv v' : Value} {g : List Int} {GS : List (List Int)} (h : TuP w lo wr gv GS) (hb1 : Below wr.heap.size wr W) (hb : ∀ B, B ≤ lo → B ≤ W.heap.size → Below B W w2)
    (how : OwS w2 lo w2.heap.size v' (GS ++ [g])) : TuP w lo w2 v' (GS ++ [g]) := by
  have B : Below lo wr w2 := (hb1.mono h.lo1).trans (hb lo (Nat.le_refl _) (Nat.le_trans h.lo1 hb1.size))
  exact ⟨how, h.be.trans (B.mono h.lo0), h.lo0, Nat.le_trans h.lo1 B.size⟩
set_option maxHeartbeats 4000000 in
set_option maxRecDepth 100000 in
theorem l16Turn_any (v : Value) (P : List (List Int)) (w : World) (hs : InS w v P) (hn : P.length ≤ 1000) (hr : ∀ R ∈ P, R.length ≤ 1000 ∧ ∀ x ∈ R, -10 ≤ x ∧ x ≤ 10) :
    Calls Tryz.prog 73 #[v] w fun e w' => ∃ v', e = .returned v' ∧ OwS w' w.heap.size w'.heap.size v' (turnP P) ∧ Below w.heap.size w w' := by
  have HS := Lib.hid hs
  have HRr := Lib.hid hr
  obtain ⟨A, c, vs, rfl, hvl, hcl, hcm, -, -⟩ := hs
  unfold maxLen at hcm
  clear hvl vs hr
  go_enter Tryz.func73, Tryz.ntmps73
  go_wp2
  have HT := Lib.hid (TuP.start w)
  go_loopw [3, 12] (fun g i wr => ∃ (j : Nat) (gv : Value), j ≤ P.length ∧ i = .int .i64 j ∧ gv = g ∧ Hid (TuP w w.heap.size wr gv (turnP (P.take j)))) (fun _ i _ => P.length - (intOf i).toNat)
  case atStart => exact ⟨0, _, Nat.zero_le _, rfl, rfl, HT.out⟩
  case round =>
    obtain ⟨j, gv, hj, rfl, rfl, HR⟩ := hrel
    clear HT
    by_cases hlt : j < P.length
    case neg =>
      obtain rfl : j = P.length := by omega
      have HF : Hid (OwS wr w.heap.size wr.heap.size gv (turnP P) ∧ Below w.heap.size w wr) := ⟨by have h := HR.out.ow; rw [List.take_length] at h; exact h, HR.out.be⟩
      go_wp2
      go_ret
      exact ⟨_, rfl, HF.out⟩
    obtain ⟨b, off, u, R, hA, hR, hcell, hin, hbl⟩ := (HS.out.below HR.out.be).at_ hlt
    obtain rfl := hA
    have HRj : Hid (P[j]? = some R) := hR
    obtain ⟨hrl, hrx⟩ := HRr.out R (List.mem_of_getElem? hR)
    obtain ⟨A1, c1, rfl, h1, h2, hsl⟩ := hin
    unfold maxLen at h2
    have HSL := Lib.hid hsl
    have HX := Lib.hid hrx
    clear hR hsl hrx
    go_wp2
    clear hcell
    obtain ⟨wz, rfl⟩ : ∃ W, W = wr := ⟨wr, rfl⟩
    have B1 : Hid (Below wz.heap.size wz (wz.alloc (.cells #[] 3))) := (Below.refl _ wz).alloc (Nat.le_refl _) _
    have HL : Hid (Fr (wz.alloc (.cells #[] 3)) wz.heap.size (wz.alloc (.cells #[] 3)).heap.size (.slice (some ⟨wz.heap.size, 0, none⟩) 0 0) []) :=
      Fr.of_own (xs := []) (World.ownsRow_lit (base := wz.heap.size) (e := 3) (size := 1) wz #[] 0 (Nat.le_refl _) (by unfold maxLen; omega) rfl)
    go_loopw [6, 19] (fun a i wr => ∃ (k : Nat) (lv : Value), k ≤ R.length ∧ i = .int .i64 k ∧ lv = a ∧ Hid (Fr wr wz.heap.size wr.heap.size lv (negL (R.take k)) ∧ Below wz.heap.size wz wr)) (fun _ i _ => R.length - (intOf i).toNat)
    case atStart => exact ⟨0, _, Nat.zero_le _, rfl, rfl, HL.out, B1.out⟩
    case round =>
      obtain ⟨k, lv, hk, rfl, rfl, HI⟩ := hrel
      clear HL B1
      by_cases hlt2 : k < R.length
      case neg =>
        obtain rfl : k = R.length := by omega
        have HI2 : Hid (Fr wr wz.heap.size wr.heap.size lv (negL R) ∧ Below wz.heap.size wz wr) := by have h := HI.out; rw [List.take_length] at h; exact h
        obtain ⟨AL, cL, rfl, -, -⟩ := HI2.out.1.form
        clear HI
        obtain ⟨vs, hown6, hpush⟩ := HR.out.ow.pushed HI2.out.2 HI2.out.1
        have HO := Lib.hid hown6
        have HP := Lib.hid hpush
        clear hown6 hpush
        have hGS : (turnP (P.take j)).length ≤ 1048576 := by rw [turnP, List.length_map, List.length_take]; omega
        have HGS := Lib.hid hGS
        clear hGS
        go_wp2_with (at_builtin; refine appS rfl _ _ rfl wr w.heap.size gv (turnP (P.take j)).length vs rfl HO.out _ _ _ rfl HGS.out (Nat.le_trans HR.out.lo1 HI2.out.2.size) ?_; intro v7 w7 hown7 hb7 _ hg7; have H7 : Hid (TuP w w.heap.size w7 v7 (turnP (P.take (j + 1)))) := (by rw [turnP_take HRj.out]; exact HR.out.next HI2.out.2 hb7 (HP.out _ _ hown7 hg7)); clear hown7 hb7 hg7)
        go_roundw
        case rel => exact ⟨j + 1, _, by omega, by go_num, rfl, H7.out⟩
        case measure => simp [intOf]; omega
      obtain ⟨b2, o2, x, rfl, hx, hcell2, hbl2⟩ := (HSL.out.below HI.out.2).at_ (k := k) hlt2
      have HXk : Hid (negL (R.take (k + 1)) = negL (R.take k) ++ [-x]) := negL_take hx
      have hxr := HX.out x (List.mem_of_getElem? hx)
      have HLk : Hid ((negL (R.take k)).length = k) := by show _ = _; rw [negL_len, List.length_take]; omega
      clear hx
      go_wp2_with (at_builtin; refine app1 rfl _ _ rfl wr wz.heap.size lv k (negL (R.take k)) rfl (by have h := HI.out.1.1; rw [HLk.out] at h; exact h) _ rfl (by omega) HI.out.2.size ?_; intro v5 w5 hown hb5 _ _; have H5 : Hid (Fr w5 wz.heap.size w5.heap.size v5 (negL (R.take (k + 1))) ∧ Below wz.heap.size wz w5) := ⟨Fr.of_own (by rw [HXk.out, List.length_append, HLk.out]; exact hown), HI.out.2.trans (hb5 _ (Nat.le_refl _) HI.out.2.size)⟩; clear hown hb5)
      go_roundw
      case rel => exact ⟨k + 1, _, by omega, by go_num, rfl, H5.out⟩
      case measure => simp [intOf]; omega

/-- Rows that lie from block lo on: they read the same whatever becomes of the blocks below. -/
def InSF (lo : Nat) (w : World) (v : Value) (P : List (List Int)) : Prop := ∀ W, Keep 0 lo w W → InS W v P
theorem InSF.in_ {lo : Nat} {w : World} {v : Value} {P : List (List Int)} (h : InSF lo w v P) : InS w v P := h w (Keep.refl _ _ _)
theorem InSF.keep {lo l2 h2 : Nat} {w w' : World} {v : Value} {P : List (List Int)} (h : InSF lo w v P) (hk : Keep l2 h2 w w') (hd : h2 ≤ lo) : InSF lo w' v P := fun W hW => h W ((hk.wide (Nat.zero_le _) hd).trans hW)
theorem InSF.grow {lo : Nat} {w w' : World} {v : Value} {P : List (List Int)} (h : InSF lo w v P) (hb : Below w.heap.size w w') : InSF lo w' v P := h.keep (Keep.of_below (lo := 0) (hi := 0) hb (Nat.le_refl _)) (Nat.zero_le _)
theorem InSF.wide {lo lo' : Nat} {w : World} {v : Value} {P : List (List Int)} (h : InSF lo w v P) (hl : lo' ≤ lo) : InSF lo' w v P := fun W hW => h W (hW.wide (Nat.le_refl _) hl)
theorem OwS.far {lo hi : Nat} {w : World} {v : Value} {P : List (List Int)} (h : OwS w lo hi v P) : InSF lo w v P := fun _ hW => (h.keep hW (.inr (Nat.le_refl _))).in_
theorem OwS.swap {w : World} {lo hi n c : Nat} {A : Option Addr} {xss : List (List Int)} (h : OwS w lo hi (.slice A n c) xss) {r s : Nat} {R S : List Int} (hr : xss[r]? = some R) (hs : xss[s]? = some S) :
    ∃ g Au cu Av cv z, A = some ⟨g, 0, none⟩ ∧ (r < n ∧ s < n) ∧ w.cell? ⟨g, r, none⟩ = some (.slice Au R.length cu) ∧ w.cell? ⟨g, s, none⟩ = some (.slice Av S.length cv) ∧ w.frozen? ⟨g, r, none⟩ = false ∧ (w.setCell ⟨g, r, none⟩ (.slice Av S.length cv)).cell? ⟨g, s, none⟩ = some z ∧ (w.setCell ⟨g, r, none⟩ (.slice Av S.length cv)).frozen? ⟨g, s, none⟩ = false ∧
      InSF lo ((w.setCell ⟨g, r, none⟩ (.slice Av S.length cv)).setCell ⟨g, s, none⟩ (.slice Au R.length cu)) (.slice A n c) ((xss.set r S).set s R) ∧ Below lo w ((w.setCell ⟨g, r, none⟩ (.slice Av S.length cv)).setCell ⟨g, s, none⟩ (.slice Au R.length cu)) := by
  have hrl := (List.getElem?_eq_some_iff.1 hr).1
  have hsl := (List.getElem?_eq_some_iff.1 hs).1
  obtain ⟨A', c', he, hcl, hcm⟩ := h.form
  injection he with e1 e2 e3
  subst e1; subst e2; subst e3
  obtain ⟨vs, hvl, hown, hg, hlh, hhi, hrows, hap⟩ := h
  obtain ⟨u, hu⟩ : ∃ u, vs[r]? = some u := ⟨_, List.getElem?_eq_getElem (by omega)⟩
  obtain ⟨v, hv⟩ : ∃ v, vs[s]? = some v := ⟨_, List.getElem?_eq_getElem (by omega)⟩
  obtain ⟨Au, cu, rfl, -, -⟩ := (hrows r _ _ hu hr).form
  obtain ⟨Av, cv, rfl, -, -⟩ := (hrows s _ _ hv hs).form
  rcases hown.2 with ⟨e, h0⟩ | ⟨g, cap, cur, e, hglo, hh, _⟩
  · omega
  injection e with e1 e2 e3
  subst e1; subst e3
  obtain ⟨b1, o1, x1, ea, hx1, hc1, _⟩ := (SlV.of_own hown).at_ (k := r) (by omega)
  obtain ⟨b2, o2, x2, eb, hx2, hc2, _⟩ := (SlV.of_own hown).at_ (k := s) (by omega)
  injection ea with ea; injection ea with ea1 ea2 _; subst ea1; subst ea2
  injection eb with eb; injection eb with eb1 eb2 _; subst eb1; subst eb2
  rw [hu] at hx1; injection hx1 with hx1; subst hx1
  rw [hv] at hx2; injection hx2 with hx2; subst hx2
  rw [Nat.zero_add] at hc1 hc2
  obtain ⟨_, f1, own1, k1⟩ := own_at hown hrl (.slice Av S.length cv)
  obtain ⟨⟨z, cz⟩, f2, own2, k2⟩ := own_at own1 hsl (.slice Au R.length cu)
  have KK := k1.trans k2
  have hgh := hg g rfl
  refine ⟨g, Au, cu, Av, cv, z, rfl, ⟨hrl, hsl⟩, hc1, hc2, f1, cz, f2, fun W hW => ⟨some ⟨g, 0, none⟩, c, (vs.set r (.slice Av S.length cv)).set s (.slice Au R.length cu), by simp, by simp [hvl], by simpa using hcl, hcm, SlV.of_own (ownsRow_keep (hi := hi) own2 hg (Nat.le_trans hhi KK.size) hW (.inr (Nat.le_refl _))), ?_⟩, KK.below hglo (by omega)⟩
  have hrow : ∀ (k : Nat) (y : Value) (ys : List Int), vs[k]? = some y → xss[k]? = some ys → InI W y ys := fun k y ys hy hys => by
    have hf := hrows k y ys hy hys
    exact ((hf.apart KK (fun k' hk' => by have hne := own_ne hf.1 hown hk'; simp only [Value.ownBlock, ne_eq, Option.some.injEq] at hne; omega)).keep hW (.inr (Nat.le_refl _))).in_
  intro k y ys hy hys
  rw [List.getElem?_set] at hy hys
  by_cases hk : s = k
  · subst hk
    rw [if_pos rfl, if_pos (by simp; omega)] at hy hys
    injection hy with hy; injection hys with hys
    subst hy; subst hys
    exact hrow r _ _ hu hr
  · rw [if_neg hk] at hy hys
    rw [List.getElem?_set] at hy hys
    by_cases hk2 : r = k
    · subst hk2
      rw [if_pos rfl, if_pos (by omega)] at hy hys
      injection hy with hy; injection hys with hys
      subst hy; subst hys
      exact hrow s _ _ hv hs
    · rw [if_neg hk2] at hy hys
      exact hrow k _ _ hy hys
theorem planB_small {n : Int} {P : List (List Int)} (h : planB n P = true) : P.length ≤ 1000 ∧ ∀ R ∈ P, R.length ≤ 1000 ∧ ∀ x ∈ R, -10 ≤ x ∧ x ≤ 10 := by
  have h1 := planB_bulk h
  have h2 := bulk_len P
  refine ⟨by omega, fun R hR => ?_⟩
  obtain ⟨k, hk⟩ := List.mem_iff_getElem?.1 hR
  have := bulk_row hk
  exact ⟨by omega, fun x hx => planB_el h hR hx⟩
set_option maxHeartbeats 4000000 in
set_option maxRecDepth 100000 in
theorem swapRounds_any (n : Int) (v : Value) (P : List (List Int)) (r s : Nat) (w : World) (hs : InS w v P) (hpl : planB n P = true) (hr : r < P.length) (hs' : s < P.length) :
    Calls Tryz.prog 53 #[.int .i64 n, v, .int .i64 (r : Int), .int .i64 (s : Int)] w fun e w' => ∃ v' P', e = .returned v' ∧ (planB n P' = true ∧ P'.length = P.length) ∧ InSF w.heap.size w' v' P' ∧ Below w.heap.size w w' := by
  have hbk : bulk P ≤ 1048576 := by have := planB_bulk hpl; omega
  have H1 := Lib.hid (l16At_any n v P (r : Int) w hs hbk)
  have t1 : roundOk n P (r : Int) = true := by unfold roundOk; rw [hpl, inB_mk (by omega) (by omega)]; rfl
  have t2 : roundOk n P (s : Int) = true := by unfold roundOk; rw [hpl, inB_mk (by omega) (by omega)]; rfl
  have HS := Lib.hid hs
  have HPL := Lib.hid hpl
  obtain ⟨R, hR⟩ : ∃ R, P[r]? = some R := ⟨_, List.getElem?_eq_getElem hr⟩
  obtain ⟨S, hS⟩ : ∃ S, P[s]? = some S := ⟨_, List.getElem?_eq_getElem hs'⟩
  have HB : Hid (P.length ≤ 1000 ∧ (∀ R ∈ P, R.length ≤ 1000 ∧ ∀ x ∈ R, -10 ≤ x ∧ x ≤ 10) ∧ (turnP P).length ≤ 1000 ∧ ∀ R ∈ turnP P, R.length ≤ 1000 ∧ ∀ x ∈ R, -10 ≤ x ∧ x ≤ 10) := ⟨(planB_small hpl).1, (planB_small hpl).2, (planB_small (planB_turn hpl)).1, (planB_small (planB_turn hpl)).2⟩
  have HRS : Hid (P[r]? = some R ∧ P[s]? = some S) := ⟨hR, hS⟩
  clear hR hS hs hpl hbk
  go_enter Tryz.func53, Tryz.ntmps53
  go_wp2_with fail
  refine H1.out.mono ?_
  rintro e w1 ⟨rfl, d1, rfl⟩
  rw [t1]
  clear H1 t1
  go_wp2_with fail
  refine (l16At_any n v P (s : Int) _ (HS.out.below (below_of_drewN _ _ _)) (by have := planB_bulk HPL.out; omega)).mono ?_
  rintro e w1 ⟨rfl, d2, rfl⟩
  rw [t2]
  clear t2
  go_wp2_with fail
  refine (l16Turn_any v P _ (HS.out.below (below_of_drewN _ _ _)) HB.out.1 HB.out.2.1).mono ?_
  rintro e w3 ⟨v3, rfl, ho3, hb3⟩
  have H3 : Hid (OwS w3 w.heap.size w3.heap.size v3 (turnP P) ∧ Below w.heap.size w w3) := ⟨ho3, (below_of_drewN _ _ _).trans hb3⟩
  clear ho3 hb3 HS
  go_wp2_with fail
  refine (l16Turn_any v3 (turnP P) _ H3.out.1.in_ HB.out.2.2.1 HB.out.2.2.2).mono ?_
  rintro e w4 ⟨v4, rfl, ho4, hb4⟩
  rw [turnP_turnP] at ho4
  obtain ⟨A4, c4, rfl, hc4, hm4⟩ := ho4.form
  unfold maxLen at hm4
  obtain ⟨g, Au, cu, Av, cv, z, rfl, hrs, hu, hy, f1, hz, f2, hin, hbs⟩ := ho4.swap HRS.out.1 HRS.out.2
  have H4 : Hid ((InSF w.heap.size _ _ ((P.set r S).set s R)) ∧ Below w.heap.size w _) := ⟨hin.wide H3.out.2.size, (H3.out.2.trans (hb4.mono H3.out.2.size)).trans (hbs.mono H3.out.2.size)⟩
  have HP' : Hid (planB n ((P.set r S).set s R) = true ∧ ((P.set r S).set s R).length = P.length) := ⟨planB_swap HPL.out HRS.out.1 HRS.out.2, by simp⟩
  clear ho4 hb4 H3 hin hbs
  go_wp2
  go_ret
  exact ⟨_, _, rfl, HP'.out, H4.out⟩

set_option maxRecDepth 100000 in
/-- 'append(out, rows...)' at rows of the call's own: what lies behind it reads as both. -/
theorem appSrcS {ops : Array Oper} {rest : List Oper} {o : Oper} {a : Act} {Q : Exit → Act → World → Prop} (hgd : o.guard = none) (s y : Operand)
    (ho : o.op = .call { callee := .builtin .append, args := #[s, y], argTypes := #[27, 27] })
    (w : World) (lo hi l2 h2 : Nat) (v u : Value) (xss yss : List (List Int)) (hs : a.eval s = v) (how : OwS w lo hi v xss) (hy : a.eval y = u) (hou : OwS w l2 h2 u yss) (hll : lo ≤ l2) (h0 : 0 < yss.length) (hl : xss.length + yss.length ≤ 1048576)
    (h : ∀ v' w', InSF lo w' v' (xss ++ yss) → Below lo w w' → wpList Tryz.prog ops Q rest (a.put o.dst v') w') :
    wpList Tryz.prog ops Q (o :: rest) a w := by
  obtain ⟨i0, hi0, hz0, hz1, hz2⟩ := info_parts infoIS
  obtain ⟨A, c, rfl, hcl, hcm⟩ := how.form
  obtain ⟨A2, c2, rfl, hcl2, hcm2⟩ := hou.form
  obtain ⟨vs, hvl, hown, hg, hlh, hhi, hrows, hap⟩ := how
  obtain ⟨us, hul, hown2, hg2, hlh2, hhi2, hrows2, hap2⟩ := hou
  obtain ⟨b2, o2, x2, rfl, _, _, _⟩ := (SlV.of_own hown2).at_ (k := 0) (by omega)
  refine wpList_append_own _ hgd s y _ ho lo 23 i0 (.slice none 0 0) 1 24 Tryz.underlying27 hi0 hz0 hz1 hz2 rfl (by decide) _ _ vs hs hown ⟨b2, o2, none⟩ yss.length c2 us hy (by omega) ?_ ?_ (by unfold maxLen; omega) (by omega) (by omega) ?_
  · intro j x hj
    rcases SlV.of_own hown2 with e | ⟨b, off, hA, hc⟩
    · rw [e] at hul; simp at hul; omega
    · injection hA with hA
      subst_vars
      injection hA with h1 h2
      subst h1; subst h2
      rw [Go.WideShapes.add_plain]; exact hc j x hj
  · intro x hx
    obtain ⟨k, hk⟩ := List.mem_iff_getElem?.1 hx
    obtain ⟨ys, hys⟩ : ∃ ys, yss[k]? = some ys := ⟨_, List.getElem?_eq_getElem (by have := (List.getElem?_eq_some_iff.1 hk).1; omega)⟩
    obtain ⟨A3, c3, rfl, _, _⟩ := (hrows2 k _ _ hk hys).form
    rfl
  · intro v' w' h3 h4 _
    have hb : Below lo w w' := (Below.refl lo w).grown h4 (by omega) (fun k hk => (hown.lt k hk).1)
    refine h v' w' (fun W hW => ?_) hb
    have h5 := h3
    rcases h5.2 with ⟨rfl, hn⟩ | ⟨g, cap, cur, rfl, _, hh, hc, hm, _⟩
    · omega
    refine ⟨_, cap, vs ++ us, by rw [List.length_append], by simp [hvl, hul], by rw [List.length_append]; exact hc, hm, SlV.of_own (ownsRow_keep (hi := w'.heap.size) h3 (fun g hg => (h3.lt g hg).2) (Nat.le_refl _) hW (.inr (Nat.le_refl _))), ?_⟩
    intro k x xs hx hxs
    rcases Nat.lt_or_ge k vs.length with hk | hk
    · rw [List.getElem?_append_left hk] at hx
      rw [List.getElem?_append_left (by omega)] at hxs
      have hf := hrows k x xs hx hxs
      exact ((hf.grownBy h4 fun g he => own_ne hf.1 hown he).keep hW (.inr (Nat.le_refl _))).in_
    · rw [List.getElem?_append_right hk] at hx
      rw [List.getElem?_append_right (by omega), show k - xss.length = k - vs.length from by omega] at hxs
      have hf := hrows2 _ x xs hx hxs
      exact ((hf.grownBy h4 fun g he => own_ne hf.1 hown he).keep hW (.inr hll)).in_
set_option maxHeartbeats 4000000 in
set_option maxRecDepth 100000 in
theorem doublePlan_any (n : Int) (v : Value) (P : List (List Int)) (w : World) (hs : InS w v P) (hpl : planB n P = true) (h0 : 0 < P.length) (h18 : P.length ≤ 18) :
    Calls Tryz.prog 54 #[.int .i64 n, v] w fun e w' => ∃ v' P', e = .returned v' ∧ planB n P' = true ∧ InSF w.heap.size w' v' P' ∧ Below w.heap.size w w' := by
  have HPL := Lib.hid hpl
  have H1 := Lib.hid (specPlanOk_any n v P w hs (by have := planB_bulk hpl; omega))
  have HS := Lib.hid hs
  obtain ⟨A, c, vs, rfl, hvl, hcl, hcm, -, -⟩ := hs
  unfold maxLen at hcm
  have HB : Hid (P.length ≤ 1000 ∧ (∀ R ∈ P, R.length ≤ 1000 ∧ ∀ x ∈ R, -10 ≤ x ∧ x ≤ 10) ∧ (turnP P).length ≤ 1000 ∧ ∀ R ∈ turnP P, R.length ≤ 1000 ∧ ∀ x ∈ R, -10 ≤ x ∧ x ≤ 10) := ⟨(planB_small hpl).1, (planB_small hpl).2, (planB_small (planB_turn hpl)).1, (planB_small (planB_turn hpl)).2⟩
  clear hvl hpl
  have h18i : (P.length : Int) ≤ 18 := by omega
  go_enter Tryz.func54, Tryz.ntmps54
  go_wp2_with fail
  refine H1.out.mono ?_
  rintro e w1 ⟨rfl, d1, rfl⟩
  rw [HPL.out]
  clear H1
  go_wp2_with fail
  refine (l16Turn_any _ P _ (HS.out.below (below_of_drewN _ _ _)) HB.out.1 HB.out.2.1).mono ?_
  rintro e w3 ⟨v3, rfl, ho3, hb3⟩
  have H3 : Hid (OwS w3 w.heap.size w3.heap.size v3 (turnP P) ∧ Below w.heap.size w w3) := ⟨ho3, (below_of_drewN _ _ _).trans hb3⟩
  clear ho3 hb3
  go_wp2_with fail
  refine (l16Turn_any v3 (turnP P) _ H3.out.1.in_ HB.out.2.2.1 HB.out.2.2.2).mono ?_
  rintro e w4 ⟨v4, rfl, ho4, hb4⟩
  rw [turnP_turnP] at ho4
  have H4 : Hid (OwS w4 w3.heap.size w4.heap.size v4 P ∧ Below w.heap.size w w4 ∧ w.heap.size ≤ w3.heap.size ∧ InS w4 (.slice A P.length c) P ∧ w3.heap.size ≤ w4.heap.size) := ⟨ho4, H3.out.2.trans (hb4.mono H3.out.2.size), H3.out.2.size, HS.out.below (H3.out.2.trans (hb4.mono H3.out.2.size)), hb4.size⟩
  clear ho4 hb4 H3 HS
  go_wp2_with fail
  refine (l16Turn_any _ P _ H4.out.2.2.2.1 HB.out.1 HB.out.2.1).mono ?_
  rintro e w5 ⟨v5, rfl, ho5, hb5⟩
  have H5 : Hid (OwS w5 w4.heap.size w5.heap.size v5 (turnP P) ∧ OwS w5 w3.heap.size w4.heap.size v4 P ∧ Below w.heap.size w w5 ∧ w.heap.size ≤ w3.heap.size ∧ w3.heap.size ≤ w4.heap.size) := ⟨ho5, H4.out.1.grow hb5, H4.out.2.1.trans (hb5.mono H4.out.2.1.size), H4.out.2.2.1, H4.out.2.2.2.2⟩
  have HL : Hid ((turnP P).length = P.length) := by show _ = _; simp [turnP]
  clear ho5 hb5 H4
  go_wp2_with (at_builtin; refine appSrcS rfl _ _ rfl w5 w3.heap.size w4.heap.size w4.heap.size w5.heap.size v4 v5 P (turnP P) rfl H5.out.2.1 rfl H5.out.1 H5.out.2.2.2.2 (by rw [HL.out]; exact h0) (by rw [HL.out]; omega) ?_; intro v6 w6 hin hb6; have H6 : Hid (planB n (P ++ turnP P) = true ∧ InSF w.heap.size w6 v6 (P ++ turnP P) ∧ Below w.heap.size w w6) := ⟨planB_double HPL.out h18, hin.wide H5.out.2.2.2.1, H5.out.2.2.1.trans (hb6.mono H5.out.2.2.2.1)⟩; clear hin hb6)
  go_ret
  exact ⟨_, _, rfl, H6.out⟩

set_option maxHeartbeats 2000000 in
theorem l01Pick_any (p : Nat) (v : Value) (n : Nat) (w : World) (hc : Cur w p v n) (hn : n ≤ 1048576) :
    Calls Tryz.prog 51 #[.pointer (some ⟨p, 0, none⟩), .slice (some ⟨w.heap.size, 0, none⟩) 4 4] (w.alloc (.cells #[.int .i64 2, .int .i64 4, .int .i64 6, .int .i64 8] 3)) fun e w' => ∃ x : Nat, (x = 2 ∨ x = 4 ∨ x = 6 ∨ x = 8) ∧ e = .returned (.int .i64 (x : Int)) ∧ Cur w' p v n ∧ Keep p (p + 1) w w' := by
  have hp := hc.lt
  have hb : Below w.heap.size w (w.alloc (.cells #[.int .i64 2, .int .i64 4, .int .i64 6, .int .i64 8] 3)) := (Below.refl _ w).alloc (Nat.le_refl _) _
  have HC : Hid (Cur (w.alloc (.cells #[.int .i64 2, .int .i64 4, .int .i64 6, .int .i64 8] 3)) p v n ∧ Keep p (p + 1) w (w.alloc (.cells #[.int .i64 2, .int .i64 4, .int .i64 6, .int .i64 8] 3)) ∧ w.heap.size < (w.alloc (.cells #[.int .i64 2, .int .i64 4, .int .i64 6, .int .i64 8] 3)).heap.size ∧
      (∀ k : Nat, k < 4 → (w.alloc (.cells #[.int .i64 2, .int .i64 4, .int .i64 6, .int .i64 8] 3)).cell? ⟨w.heap.size, k, none⟩ = some (.int .i64 ((2 * k + 2 : Nat) : Int)))) :=
    ⟨hc.far hc (Nat.le_refl _) hb, (Keep.refl _ _ _).far hb (Nat.le_refl _), by simp, fun k hk => by
      rcases k with _ | _ | _ | _ | k
      · simp
      · simp
      · simp
      · simp
      · omega⟩
  clear hc hb
  generalize w.alloc (.cells #[.int .i64 2, .int .i64 4, .int .i64 6, .int .i64 8] 3) = W at *
  go_enter Tryz.func51, Tryz.ntmps51
  go_wp2_with fail
  refine (l01Below_any p v n 4 _ HC.out.1 hn (by omega) (by omega)).mono ?_
  rintro e w2 ⟨x, hx, rfl, hc2, hk2⟩
  obtain ⟨k, rfl⟩ := Int.eq_ofNat_of_zero_le hx.1
  have hk4 : k < 4 := by omega
  have hcell : w2.cell? ⟨w.heap.size, k, none⟩ = some (.int .i64 ((2 * k + 2 : Nat) : Int)) := (hk2.cell (p := ⟨w.heap.size, k, none⟩) HC.out.2.2.1 (.inr (by show p + 1 ≤ w.heap.size; omega))).trans (HC.out.2.2.2 k hk4)
  have H2 : Hid (Cur w2 p v n ∧ Keep p (p + 1) w w2) := ⟨hc2, HC.out.2.1.trans hk2⟩
  clear hc2 hk2
  generalize hq : 2 * k + 2 = q at *
  have HQ : Hid (2 * k + 2 = q) := hq
  clear hq
  go_wp2
  go_ret
  exact ⟨q, by have := HQ.out; omega, rfl, H2.out⟩
end Go.Proofs.YtofpaekokmkhgaaGreatDoor
