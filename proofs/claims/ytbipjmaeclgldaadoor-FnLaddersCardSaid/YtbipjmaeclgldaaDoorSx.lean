/- Settling a ladder by a tour: the implementation's contract. -/
import Derived.Test.YtbipjmaeclgldaaDoorSw
namespace Go.Proofs.YtbipjmaeclgldaaDoor
open Go.ChangeShapes Go.WideShapes Go.ChangeAt Go.RowKit

theorem setAt2_grow {w W W' : World} {x : TourV} {bv cv vo : Value} {A : Option Addr} {c : Nat} {now : List Int} {out : List (List Int)} (h : SetAt2 w W x bv cv A c now vo out) (hb : Below W.drew.heap.size W.drew W') : SetAt2 w W' x bv cv A c now vo out := by
  have hb1 : Below W.heap.size W W' := below_undraw (q := 1) hb
  have hz : w.heap.size + 1 ≤ W.heap.size := by obtain ⟨_, _, _, _, h3, h4, _⟩ := h.ow; omega
  refine ⟨h.rd.below hb1, ?_, h.bx.below hb1, h.be.trans (hb1.mono h.be.size)⟩
  obtain ⟨vs, hl, ho, h2, h3, h4, h5, h6⟩ := h.ow.grow hb1
  exact ⟨vs, hl, ho, fun g hg => Nat.lt_of_lt_of_le (h2 g hg) hb1.size, Nat.le_trans h3 hb1.size, Nat.le_refl _, fun k u xs hu hx => (h5 k u xs hu hx).wide (Nat.le_refl _) hb1.size (Nat.le_refl _), h6⟩
theorem rd_cell {w : World} {B n c b off k : Nat} {xs : List Int} {y : Int} (h : Rd w B (some ⟨b, off, none⟩) n c xs) (hy : xs[k]? = some y) : w.cell? ⟨b, off + k, none⟩ = some (.int .i64 y) := by
  obtain ⟨b', off', e, _, h2⟩ := h.at_ (by have := (List.getElem?_eq_some_iff.1 hy).1; have := h.1; omega)
  injection e with e
  injection e with e1 e2 _
  subst e1; subst e2
  exact h2 k y hy
theorem setAt2_next {w W W' : World} {x : TourV} {bv cv vo : Value} {A A' : Option Addr} {c n' c' : Nat} {now now' : List Int} {out : List (List Int)} (h : SetAt2 w W x bv cv A c now vo out)
    (hf : Fr W' W.heap.size W'.heap.size (.slice A' n' c') now') (hb : Below W.heap.size W W') : n' = x.wins.length → SetAt2 w W' x bv cv A' c' now' vo out := by
  intro hn
  subst hn
  have h2 := setAt2_grow h (W' := W') ⟨hb.os, hb.tape, hb.output, hb.size, hb.block⟩
  exact ⟨Rd.of_fr hf, h2.ow, h2.bx, h2.be⟩
theorem set_base {B : Nat} {w : World} {o1 o2 : Obj} (h : B ≤ w.heap.size) : B ≤ (((w.alloc o1).alloc o2).drew).heap.size := by simp [World.drew]; omega
theorem settleF_no {x : TourV} {l : List Int} (h : ¬ (tourB x = true ∧ ladB l = true ∧ (l.length : Int) = x.size)) : settleF x l = [] := by unfold settleF; rw [if_neg h]
theorem settleF_go {x : TourV} {l : List Int} (h1 : tourB x = true) (h2 : ladB l = true) (h3 : (l.length : Int) = x.size) : settleF x l = settleS x.wins (meas x.wins l 1) l 1 [] := by unfold settleF; rw [if_pos ⟨h1, h2, h3⟩]
set_option maxHeartbeats 4000000 in
set_option maxRecDepth 100000 in
theorem implSettle_std (v : Value) (x : TourV) (v2 : Value) (l : List Int) (w : World) (hs : InT w v x) (_hn : x.wins.length ≤ 1048576) (hs2 : InI w v2 l) (hn2 : l.length ≤ 1048576) :
    Calls Tryd.prog 15 #[v, v2] w fun e w' => ∃ v', e = .returned v' ∧ OwS w' w.heap.size w'.heap.size v' (settleF x l) ∧ Below w.heap.size w w' := by
  have hs0 := hs
  obtain ⟨u, rfl, A, c, rfl, hc, hm, hsl⟩ := hs
  obtain ⟨A2, c2, rfl, hc2, hm2, hsl2⟩ := hs2
  have HS := Lib.hid (And.intro hs0 (And.intro hsl hsl2))
  clear hs0 hsl hsl2
  cases h1 : tourB x
  · have HO : Hid (settleF x l = []) := settleF_no (by rw [h1]; simp)
    go_enter Tryd.func15, Tryd.ntmps15
    go_wp2_with (go_at_call 38; refine (implTourOk_any _ x _ (HS.out.1.below ((Below.refl _ w).alloc (Nat.le_refl _) _))).mono ?_; rintro e w1 ⟨rfl, hb⟩; rw [h1]; have HB : Hid (Below w.heap.size w w1) := ((Below.refl _ w).alloc (Nat.le_refl _) _).trans (hb.mono (by simp)); clear hb)
    go_ret
    exact ⟨_, rfl, by rw [HO.out]; exact OwS.nil _ (Nat.le_refl _) HB.out.size, HB.out⟩
  · cases h2 : ladB l
    · have HO : Hid (settleF x l = []) := settleF_no (by rw [h2]; simp)
      go_enter Tryd.func15, Tryd.ntmps15
      go_wp2_with (first | (go_at_call 38; refine (implTourOk_any _ x _ (HS.out.1.below ((Below.refl _ w).alloc (Nat.le_refl _) _))).mono ?_; rintro e w1 ⟨rfl, hb⟩; rw [h1]; have HB : Hid (Below w.heap.size w w1) := ((Below.refl _ w).alloc (Nat.le_refl _) _).trans (hb.mono (by simp)); clear hb) | (go_at_call 13; refine (implLadderOk_any A2 c2 l w1 (HS.out.2.2.below HB.out) hn2 hc2).mono ?_; rintro e w2 ⟨rfl, rfl⟩; rw [h2]))
      go_ret
      exact ⟨_, rfl, by rw [HO.out]; exact OwS.nil _ (Nat.le_refl _) HB.out.size, HB.out⟩
    · obtain ⟨⟨l1, l8⟩, -, -⟩ := ladB_t h2
      by_cases h3 : (l.length : Int) = x.size
      · obtain ⟨t1, t2, t3, t4, -⟩ := tourB_t h1
        have hlen : l.length = x.wins.length := by omega
        have HF : Hid (settleF x l = settleS x.wins (meas x.wins l 1) l 1 []) := settleF_go h1 h2 h3
        have HK : Hid (SetOk x l l 1 []) := setOk_start h2 hlen
        have HT := Lib.hid (And.intro h1 t4)
        have h3' : ((l.length : Int) == x.size) = true := by simpa using h3
        have h3'' : ((l.length : Int) != x.size) = false := by simpa using h3
        have HLEN := Lib.hid (And.intro hlen h3)
        have hn8 : x.wins.length ≤ 8 := by omega
        clear hlen h3 t3
        go_enter Tryd.func15, Tryd.ntmps15
        go_upto_region 3 with (first | (go_at_call 38; refine (implTourOk_any _ x _ (HS.out.1.below ((Below.refl _ w).alloc (Nat.le_refl _) _))).mono ?_; rintro e w1 ⟨rfl, hb⟩; rw [h1]; have q0 : w1.cell? ⟨w.heap.size, 0, none⟩ = some (.int .i64 x.size) := (by rw [hb.cell (p := ⟨w.heap.size, 0, none⟩) (by simp)]; simp [go_sem]); have q1 : w1.cell? ⟨w.heap.size, 1, none⟩ = some (.slice A x.wins.length c) := (by rw [hb.cell (p := ⟨w.heap.size, 1, none⟩) (by simp)]; simp [go_sem]); have HB : Hid (Below w.heap.size w w1 ∧ w.heap.size < w1.heap.size) := ⟨((Below.refl _ w).alloc (Nat.le_refl _) _).trans (hb.mono (by simp)), Nat.lt_of_lt_of_le (by simp) hb.size⟩; clear hb) | (go_at_call 13; refine (implLadderOk_any A2 c2 l w1 (HS.out.2.2.below HB.out.1) hn2 hc2).mono ?_; rintro e w2 ⟨rfl, rfl⟩; rw [h2]))
        clear h1 h2 h3' h3''
        go_wp2_with fail
        refine (cloneI_any A2 c2 l w1 (HS.out.2.2.below HB.out.1) hn2).mono ?_
        rintro e w2 ⟨A3, c3, rfl, hf, hb2⟩
        have HA0 : Hid (SetAt2 w w2 x (.int .i64 x.size) (.slice A x.wins.length c) A3 c3 l (.slice none 0 0) []) := by
          have hrd := Rd.of_fr (B := w.heap.size) hf
          rw [HLEN.out.1] at hrd
          have hz := hb2.size
          exact ⟨hrd, OwS.nil _ (Nat.le_refl _) (by have := HB.out.2; omega), Bx.below ⟨q0, q1, HB.out.2⟩ hb2, HB.out.1.trans (hb2.mono HB.out.1.size)⟩
        clear hf hb2 q0 q1
        go_wp2_with fail
        go_loopg [5, 6, 7] (meas x.wins l 1) (fun gk vnow vout vat wr => ∃ (now : List Int) (k : Nat) (out : List (List Int)) (An : Option Addr) (cn : Nat) (vo : Value), vat = .int .i64 k ∧ vnow = .slice An x.wins.length cn ∧ vo = vout ∧
          Hid (SetOk x l now k out ∧ meas x.wins now k ≤ gk ∧ settleF x l = settleS x.wins gk now k out) ∧ Hid (SetAt2 w wr x (.int .i64 x.size) (.slice A x.wins.length c) An cn now vo out))
        case atStart => exact ⟨l, 1, [], A3, c3, _, rfl, by rw [HLEN.out.1], rfl, ⟨HK.out, Nat.le_refl _, HF.out⟩, HA0⟩
        case round =>
          obtain ⟨now, k, out, An, cn, vo, rfl, rfl, rfl, HS2, HA⟩ := hrel
          clear HA0
          have hk1 := HS2.out.1.k1
          have hk2 : k ≤ x.wins.length := by have := HS2.out.1.k2; have := HS2.out.1.len; omega
          by_cases hlt : k < x.wins.length
          · have hlen2 := HS2.out.1.len
            obtain ⟨a, b, hb, ha, ha2, hb2, hne⟩ := set_at HS2.out.1 (by omega)
            obtain ⟨bk, off, rfl, hbk, hcell⟩ := HA.out.rd.at_ (by omega)
            have k0 := hcell k _ hb
            have k1 := hcell (k - 1) _ ha
            have HAB := Lib.hid (And.intro hb (And.intro ha (And.intro ha2 (And.intro hb2 hne))))
            obtain ⟨q, rfl⟩ : ∃ q, gk = q + 1 := ⟨gk - 1, by have := HS2.out.2.1; unfold meas at this; omega⟩
            obtain ⟨⟨q0, q1, q2⟩, hsz⟩ : Bx wr w.heap.size (.int .i64 x.size) (.slice A x.wins.length c) ∧ w.heap.size + 1 ≤ wr.heap.size := ⟨HA.out.bx, by obtain ⟨_, _, _, _, h3, h4, _⟩ := HA.out.ow; omega⟩
            have HI : Hid (InT wr (.agg #[.int .i64 x.size, .slice A x.wins.length c]) x) := HS.out.1.below HA.out.be
            have j0 : (0 : Int) ≤ (k : Int) - 1 := by omega
            have j1 : (k : Int) - 1 < (x.wins.length : Int) := by omega
            have j2 : IntKind.i64.wrap ((k : Int) - 1) = (k : Int) - 1 := by rw [IntKind.wrap_i64]; omega
            have j3 : ((k : Int) - 1).toNat = k - 1 := by omega
            have j4 : (k : Int) < (x.wins.length : Int) := by omega
            have j5 : (1 : Int) ≤ (k : Int) := by omega
            have j6 : (k : Int) ≤ (x.wins.length : Int) := by omega
            have ha8 : a ≤ 7 := by omega
            clear hb ha hcell hne
            cases hbt : bt x.wins b a
            all_goals
              have HBT := Lib.hid hbt
              clear hbt
              go_upto_region 8 with (fail)
              go_region_held3 (fun W => W.cell? ⟨w.heap.size, 0, none⟩ = some (.int .i64 x.size) ∧ W.cell? ⟨w.heap.size, 1, none⟩ = some (.slice A x.wins.length c) ∧ W.cell? ⟨bk, off + k, none⟩ = some (.int .i64 b) ∧ W.cell? ⟨bk, off + (k - 1), none⟩ = some (.int .i64 a)) (first | exact ⟨q0, q1, k0, k1⟩) (first
                | (go_at_call 39; refine (implBeats_any _ x b a wr.drew HI.out hn8 HT.out.2 hb2 ha8).mono ?_; rintro e w3 ⟨rfl, hb3⟩; rw [HBT.out]; have HA3 : Hid (SetAt2 w w3 x (.int .i64 x.size) (.slice A x.wins.length c) (some ⟨bk, off, none⟩) cn now vo out) := setAt2_grow HA.out hb3; clear q0 q1 k0 k1; obtain ⟨q0, q1, -⟩ := HA3.out.bx; have k0 := rd_cell HA3.out.rd HAB.out.1; have k1 := rd_cell HA3.out.rd HAB.out.2.1; have HZ : Hid (wr.heap.size ≤ w3.heap.size) := hb3.size; clear hb3))
            · have HN : Hid (SetOk x l now (k + 1) out ∧ meas x.wins now (k + 1) ≤ q ∧ settleF x l = settleS x.wins q now (k + 1) out) := by
                have h := set_on HS2.out.1 (by omega)
                have h2 := HS2.out.2.1
                exact ⟨h.1, by omega, by rw [HS2.out.2.2, settleS_on (by omega) HAB.out.1 HAB.out.2.1 (by simpa [bi] using HBT.out)]⟩
              go_wp2
              go_roundg q
              case measure => omega
              case rel => exact ⟨now, k + 1, out, _, cn, vo, by go_num, rfl, rfl, HN, HA3⟩
            · have HN : Hid (SetOk x l (swapAt now k) 1 (out ++ [[(b : Int), (a : Int), 1]]) ∧ meas x.wins (swapAt now k) 1 ≤ q ∧ settleF x l = settleS x.wins q (swapAt now k) 1 (out ++ [[(b : Int), (a : Int), 1]])) := by
                have h := set_go HT.out.1 HS2.out.1 HAB.out.1 HAB.out.2.1 HAB.out.2.2.1 HAB.out.2.2.2.1 HAB.out.2.2.2.2 HBT.out
                have h2 := HS2.out.2.1
                exact ⟨h.1, by omega, by rw [HS2.out.2.2, settleS_go (by omega) HAB.out.1 HAB.out.2.1 (by simpa [bi] using HBT.out)]⟩
              obtain ⟨vs, hl, ho, ho2, ho3, ho4, ho5, ho6⟩ := HA3.out.ow
              have hol : out.length ≤ 1048576 := by have := HS2.out.1.cnt; omega
              have HOW := Lib.hid (And.intro hl (And.intro ho (And.intro ho3 (And.intro ho5 ho6))))
              clear hl ho ho2 ho3 ho4 ho5 ho6
              go_upto_region 9 with (fail)
              go_region_held3 (fun W => W.cell? ⟨bk, off + k, none⟩ = some (.int .i64 b) ∧ W.cell? ⟨bk, off + (k - 1), none⟩ = some (.int .i64 a)) (first | exact ⟨k0, k1⟩ | go_keep | exact ⟨rd_cell HA4.out.rd HAB.out.1, rd_cell HA4.out.rd HAB.out.2.1⟩) (first
                | (refine stepAppS rfl (.tmp 42) (.tmp 53) rfl (w.heap.size + 1) vo out.length vs rfl (World.ownsRow.drew ((HOW.out.2.1.alloc _).alloc _)) ⟨w3.heap.size + 1, 0, none⟩ (.slice (some ⟨w3.heap.size, 0, none⟩) 3 3) rfl (by simp) rfl hol (set_base HOW.out.2.2.1) ?_; intro v4 w4 hown4 hg4; have HA4 : Hid (SetAt2 w w4 x (.int .i64 x.size) (.slice A x.wins.length c) (some ⟨bk, off, none⟩) cn now v4 (out ++ [[(b : Int), (a : Int), 1]])) := settle_push HA3.out.rd HA3.out.bx HA3.out.be HOW.out.2.2.1 HOW.out.1 HOW.out.2.1 HOW.out.2.2.2.1 HOW.out.2.2.2.2 hown4 hg4; clear hown4 hg4))
              go_wp2_with fail
              have HRI := risen_any (some ⟨bk, off, none⟩) cn now k (k - 1) w4 HA4.out.rd.2.2.2.1 (by omega) (by omega) (by omega)
              rw [HA4.out.rd.1, show ((k - 1 : Nat) : Int) = (k : Int) - 1 from by omega] at HRI
              refine HRI.mono ?_
              rintro e w5 ⟨v5, rfl, hf5, hb5⟩
              obtain ⟨A5, c5, rfl, hc5, hm5⟩ := hf5.form
              have HA5 := Lib.hid (setAt2_next HA4.out hf5 hb5 (by rw [riseL_length (by omega) (by omega)]; exact hlen2))
              have HL5 : Hid ((riseL now k (k - 1)).length = x.wins.length) := by show _ = _; rw [riseL_length (by omega) (by omega)]; exact hlen2
              clear hf5 hb5 HRI hc5
              go_wp2
              go_roundg q
              case measure => omega
              case rel => exact ⟨swapAt now k, 1, _, A5, c5, v4, by go_num, by rw [HL5.out], rfl, HN, HA5⟩
          · obtain rfl : k = x.wins.length := by omega
            have HO : Hid (settleF x l = out) := by show _ = _; rw [HS2.out.2.2, settleS_end (by have := HS2.out.1.len; omega)]
            go_wp2
            go_ret
            exact ⟨_, rfl, by rw [HO.out]; exact HA.out.ow.wideLo (Nat.le_succ _), HA.out.be⟩
      · have HO : Hid (settleF x l = []) := settleF_no (fun h => h3 h.2.2)
        have h3' : ((l.length : Int) == x.size) = false := by simpa using h3
        have h3'' : ((l.length : Int) != x.size) = true := by simpa using h3
        go_enter Tryd.func15, Tryd.ntmps15
        go_wp2_with (first | (go_at_call 38; refine (implTourOk_any _ x _ (HS.out.1.below ((Below.refl _ w).alloc (Nat.le_refl _) _))).mono ?_; rintro e w1 ⟨rfl, hb⟩; rw [h1]; have q0 : w1.cell? ⟨w.heap.size, 0, none⟩ = some (.int .i64 x.size) := (by rw [hb.cell (p := ⟨w.heap.size, 0, none⟩) (by simp)]; simp [go_sem]); have HB : Hid (Below w.heap.size w w1) := ((Below.refl _ w).alloc (Nat.le_refl _) _).trans (hb.mono (by simp)); clear hb) | (go_at_call 13; refine (implLadderOk_any A2 c2 l w1 (HS.out.2.2.below HB.out) hn2 hc2).mono ?_; rintro e w2 ⟨rfl, rfl⟩; rw [h2]))
        go_ret
        exact ⟨_, rfl, by rw [HO.out]; exact OwS.nil _ (Nat.le_refl _) HB.out.size, HB.out⟩
end Go.Proofs.YtbipjmaeclgldaaDoor
