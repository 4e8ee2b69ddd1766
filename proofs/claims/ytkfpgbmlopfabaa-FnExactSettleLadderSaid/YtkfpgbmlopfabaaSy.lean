/- Settling a ladder by a tour: the reference's contract. -/
import Derived.Test.YtkfpgbmlopfabaaSx
namespace Go.Proofs.Ytkfpgbmlopfabaa
open Go.ChangeShapes Go.WideShapes Go.ChangeAt Go.RowKit

set_option maxHeartbeats 4000000 in
set_option maxRecDepth 100000 in
theorem specSettle_std (v : Value) (x : TourV) (v2 : Value) (l : List Int) (w : World) (hs : InT w v x) (_hn : x.wins.length ≤ 1048576) (hs2 : InI w v2 l) (hn2 : l.length ≤ 1048576) :
    Calls Try.prog 5 #[v, v2] w fun e w' => ∃ v', e = .returned v' ∧ OwS w' w.heap.size w'.heap.size v' (settleF x l) ∧ Below w.heap.size w w' := by
  have hs0 := hs
  obtain ⟨u, rfl, A, c, rfl, hc, hm, hsl⟩ := hs
  obtain ⟨A2, c2, rfl, hc2, hm2, hsl2⟩ := hs2
  have HS := Lib.hid (And.intro hs0 (And.intro hsl hsl2))
  clear hs0 hsl hsl2
  cases h1 : tourB x
  · have HO : Hid (settleF x l = []) := settleF_no (by rw [h1]; simp)
    go_enter Try.func5, Try.ntmps5
    go_wp2_with (go_at_call 17; refine (specTourOk_any _ x _ (HS.out.1.below ((Below.refl _ w).alloc (Nat.le_refl _) _))).mono ?_; rintro e w1 ⟨rfl, hb⟩; rw [h1]; have HB : Hid (Below w.heap.size w w1) := ((Below.refl _ w).alloc (Nat.le_refl _) _).trans (hb.mono (by simp)); clear hb)
    go_ret
    exact ⟨_, rfl, by rw [HO.out]; exact OwS.nil _ (Nat.le_refl _) HB.out.size, HB.out⟩
  · cases h2 : ladB l
    · have HO : Hid (settleF x l = []) := settleF_no (by rw [h2]; simp)
      go_enter Try.func5, Try.ntmps5
      go_wp2_with (first | (go_at_call 17; refine (specTourOk_any _ x _ (HS.out.1.below ((Below.refl _ w).alloc (Nat.le_refl _) _))).mono ?_; rintro e w1 ⟨rfl, hb⟩; rw [h1]; have HB : Hid (Below w.heap.size w w1) := ((Below.refl _ w).alloc (Nat.le_refl _) _).trans (hb.mono (by simp)); clear hb) | (go_at_call 18; refine (specLadderOk_any A2 c2 l w1 (HS.out.2.2.below HB.out) hn2).mono ?_; rintro e w2 ⟨rfl, hb⟩; rw [h2]; replace HB : Hid (Below w.heap.size w w2) := HB.out.trans (hb.mono HB.out.size); clear hb))
      go_ret
      exact ⟨_, rfl, by rw [HO.out]; exact OwS.nil _ (Nat.le_refl _) HB.out.size, HB.out⟩
    · obtain ⟨⟨l1, l8⟩, -, -⟩ := ladB_t h2
      by_cases h3 : (l.length : Int) = x.size
      · obtain ⟨t1, t2, t3, t4, -⟩ := tourB_t h1
        have hlen : l.length = x.wins.length := by omega
        have HF : Hid (settleF x l = settleS x.wins (meas x.wins l 1) l 1 []) := settleF_go h1 h2 h3
        have HK : Hid (SetOk x l l 1 []) := setOk_start h2 hlen
        have HT := Lib.hid (And.intro h1 t4)
        have h3' : ((l.length : Int) == x.size) = true := by simpa using h3
        have h3'' : ((l.length : Int) != x.size) = false := by simpa using h3
        have HLEN := Lib.hid (And.intro hlen h3)
        have hn8 : x.wins.length ≤ 8 := by omega
        clear hlen h3 t3
        go_enter Try.func5, Try.ntmps5
        go_upto_region 3 with (first | (go_at_call 17; refine (specTourOk_any _ x _ (HS.out.1.below ((Below.refl _ w).alloc (Nat.le_refl _) _))).mono ?_; rintro e w1 ⟨rfl, hb⟩; rw [h1]; have q0 : w1.cell? ⟨w.heap.size, 0, none⟩ = some (.int .i64 x.size) := (by rw [hb.cell (p := ⟨w.heap.size, 0, none⟩) (by simp)]; simp [go_sem]); have q1 : w1.cell? ⟨w.heap.size, 1, none⟩ = some (.slice A x.wins.length c) := (by rw [hb.cell (p := ⟨w.heap.size, 1, none⟩) (by simp)]; simp [go_sem]); have HB : Hid (Below w.heap.size w w1 ∧ w.heap.size < w1.heap.size) := ⟨((Below.refl _ w).alloc (Nat.le_refl _) _).trans (hb.mono (by simp)), Nat.lt_of_lt_of_le (by simp) hb.size⟩; clear hb) | (go_at_call 18; refine (specLadderOk_any A2 c2 l w1 (HS.out.2.2.below HB.out.1) hn2).mono ?_; rintro e w2 ⟨rfl, hb⟩; rw [h2]; replace q0 := (hb.cell (p := ⟨w.heap.size, 0, none⟩) HB.out.2).trans q0; replace q1 := (hb.cell (p := ⟨w.heap.size, 1, none⟩) HB.out.2).trans q1; replace HB : Hid (Below w.heap.size w w2 ∧ w.heap.size < w2.heap.size) := ⟨HB.out.1.trans (hb.mono HB.out.1.size), Nat.lt_of_lt_of_le HB.out.2 hb.size⟩; clear hb))
        clear h1 h2 h3' h3''
        go_wp2_with fail
        have HA0 : Hid (SetAt2 w (w2.alloc (.cells #[] 22)) x (.int .i64 x.size) (.slice A x.wins.length c) A2 c2 l (.slice (some ⟨w2.heap.size, 0, none⟩) 0 0) []) := by
          have hb3 : Below w.heap.size w (w2.alloc (.cells #[] 22)) := HB.out.1.alloc HB.out.1.size _
          have hb4 : Below w2.heap.size w2 (w2.alloc (.cells #[] 22)) := (Below.refl _ w2).alloc (Nat.le_refl _) _
          have hrd : Rd w w.heap.size A2 x.wins.length c2 l := Rd.of_in HLEN.out.1 (by rw [← HLEN.out.1]; exact hc2) hm2 HS.out.2.2 (by rw [← HLEN.out.1]; exact l1) (Nat.le_refl _)
          have hz := HB.out.2
          refine ⟨hrd.below hb3, ⟨[], rfl, World.ownsRow_made w2 #[] 0 (by omega) (by unfold maxLen; omega) rfl, fun g hg => ?_, by simp; omega, Nat.le_refl _, fun k u xs hu => by simp at hu, fun i j u u' _ hu => by simp at hu⟩, Bx.below ⟨q0, q1, HB.out.2⟩ hb4, hb3⟩
          simp only [Value.ownBlock, Option.some.injEq] at hg
          subst hg; simp
        clear q0 q1
        generalize w2.alloc (.cells #[] 22) = w3 at *
        go_loopg [5, 6, 7] (meas x.wins l 1) (fun gk vout vnow vat wr => ∃ (now : List Int) (i : Nat) (out : List (List Int)) (An : Option Addr) (cn : Nat) (vo : Value), vat = .int .i64 i ∧ vnow = .slice An x.wins.length cn ∧ vo = vout ∧
          Hid (SetOk x l now (i + 1) out ∧ meas x.wins now (i + 1) ≤ gk ∧ settleF x l = settleS x.wins gk now (i + 1) out) ∧ Hid (SetAt2 w wr x (.int .i64 x.size) (.slice A x.wins.length c) An cn now vo out))
        case atStart => exact ⟨l, 0, [], A2, c2, _, rfl, by rw [HLEN.out.1], rfl, ⟨HK.out, Nat.le_refl _, HF.out⟩, HA0⟩
        case round =>
          obtain ⟨now, i, out, An, cn, vo, rfl, rfl, rfl, HS2, HA⟩ := hrel
          clear HA0
          have hk2 : i + 1 ≤ x.wins.length := by have := HS2.out.1.k2; have := HS2.out.1.len; omega
          by_cases hlt : i + 1 < x.wins.length
          · have hlen2 := HS2.out.1.len
            obtain ⟨a, b, hb, ha, ha2, hb2, hne⟩ := set_at HS2.out.1 (by omega)
            rw [Nat.add_sub_cancel] at ha
            obtain ⟨bk, off, rfl, hbk, hcell⟩ := HA.out.rd.at_ (by omega)
            have k0 := hcell (i + 1) _ hb
            have k1 := hcell i _ ha
            have HAB := Lib.hid (And.intro hb (And.intro ha (And.intro ha2 (And.intro hb2 hne))))
            obtain ⟨q, rfl⟩ : ∃ q, gk = q + 1 := ⟨gk - 1, by have := HS2.out.2.1; unfold meas at this; omega⟩
            obtain ⟨⟨q0, q1, q2⟩, hsz⟩ : Bx wr w.heap.size (.int .i64 x.size) (.slice A x.wins.length c) ∧ w.heap.size + 1 ≤ wr.heap.size := ⟨HA.out.bx, by obtain ⟨_, _, _, _, h3, h4, _⟩ := HA.out.ow; omega⟩
            have HI : Hid (InT wr (.agg #[.int .i64 x.size, .slice A x.wins.length c]) x) := HS.out.1.below HA.out.be
            have j0 : (0 : Int) ≤ (i : Int) + 1 := by omega
            have j1 : (i : Int) + 1 < (x.wins.length : Int) := by omega
            have j2 : IntKind.i64.wrap ((i : Int) + 1) = (i : Int) + 1 := by rw [IntKind.wrap_i64]; omega
            have j3 : ((i : Int) + 1).toNat = i + 1 := by omega
            have j4 : (i : Int) < (x.wins.length : Int) := by omega
            have ha8 : a ≤ 7 := by omega
            clear hb ha hcell hne
            cases hbt : bt x.wins b a
            all_goals
              have HBT := Lib.hid hbt
              clear hbt
              go_upto_region 7 with (fail)
              go_region_held3 (fun W => W.cell? ⟨w.heap.size, 0, none⟩ = some (.int .i64 x.size) ∧ W.cell? ⟨w.heap.size, 1, none⟩ = some (.slice A x.wins.length c) ∧ W.cell? ⟨bk, off + (i + 1), none⟩ = some (.int .i64 b) ∧ W.cell? ⟨bk, off + i, none⟩ = some (.int .i64 a)) (first | exact ⟨q0, q1, k0, k1⟩) (first
                | (go_at_call 19; refine (specBeats_any _ x b a wr.drew HI.out hn8 HT.out.2 hb2 ha8).mono ?_; rintro e w3 ⟨rfl, hb3⟩; rw [HBT.out]; have HA3 : Hid (SetAt2 w w3 x (.int .i64 x.size) (.slice A x.wins.length c) (some ⟨bk, off, none⟩) cn now vo out) := setAt2_grow HA.out hb3; clear q0 q1 k0 k1; obtain ⟨q0, q1, -⟩ := HA3.out.bx; have k0 := rd_cell HA3.out.rd HAB.out.1; have k1 := rd_cell HA3.out.rd HAB.out.2.1; have HZ : Hid (wr.heap.size ≤ w3.heap.size) := hb3.size; clear hb3))
            · have HN : Hid (SetOk x l now (i + 1 + 1) out ∧ meas x.wins now (i + 1 + 1) ≤ q ∧ settleF x l = settleS x.wins q now (i + 1 + 1) out) := by
                have h := set_on HS2.out.1 (by omega)
                have h2 := HS2.out.2.1
                exact ⟨h.1, by omega, by rw [HS2.out.2.2, settleS_on (by omega) HAB.out.1 (by rw [Nat.add_sub_cancel]; exact HAB.out.2.1) (by simpa [bi] using HBT.out)]⟩
              go_wp2
              go_roundg q
              case measure => omega
              case rel => exact ⟨now, i + 1, out, _, cn, vo, by go_num, rfl, rfl, HN, HA3⟩
            · have HN : Hid (SetOk x l (swapAt now (i + 1)) 1 (out ++ [[(b : Int), (a : Int), 1]]) ∧ meas x.wins (swapAt now (i + 1)) 1 ≤ q ∧ settleF x l = settleS x.wins q (swapAt now (i + 1)) 1 (out ++ [[(b : Int), (a : Int), 1]])) := by
                have h := set_go HT.out.1 HS2.out.1 HAB.out.1 (by rw [Nat.add_sub_cancel]; exact HAB.out.2.1) HAB.out.2.2.1 HAB.out.2.2.2.1 HAB.out.2.2.2.2 HBT.out
                have h2 := HS2.out.2.1
                exact ⟨h.1, by omega, by rw [HS2.out.2.2, settleS_go (by omega) HAB.out.1 (by rw [Nat.add_sub_cancel]; exact HAB.out.2.1) (by simpa [bi] using HBT.out)]⟩
              have HUP : Hid (upF now (b : Int) (a : Int) = swapAt now (i + 1)) := by
                show _ = _
                rw [swapAt, Nat.add_sub_cancel]
                exact up_rise (ladB_t HS2.out.1.lad).2.2 (Nat.lt_succ_self _) HAB.out.1 HAB.out.2.1
              obtain ⟨vs, hl, ho, ho2, ho3, ho4, ho5, ho6⟩ := HA3.out.ow
              have hol : out.length ≤ 1048576 := by have := HS2.out.1.cnt; omega
              have HOW := Lib.hid (And.intro hl (And.intro ho (And.intro ho3 (And.intro ho5 ho6))))
              clear hl ho ho2 ho3 ho4 ho5 ho6
              go_upto_region 8 with (fail)
              go_region_held3 (fun W => W.cell? ⟨bk, off + (i + 1), none⟩ = some (.int .i64 b) ∧ W.cell? ⟨bk, off + i, none⟩ = some (.int .i64 a)) (first | exact ⟨k0, k1⟩ | go_keep | exact ⟨rd_cell HA4.out.rd HAB.out.1, rd_cell HA4.out.rd HAB.out.2.1⟩) (first
                | (refine stepAppS rfl (.tmp 41) (.tmp 52) rfl (w.heap.size + 1) vo out.length vs rfl (World.ownsRow.drew ((HOW.out.2.1.alloc _).alloc _)) ⟨w3.heap.size + 1, 0, none⟩ (.slice (some ⟨w3.heap.size, 0, none⟩) 3 3) rfl (by simp) rfl hol (set_base HOW.out.2.2.1) ?_; intro v4 w4 hown4 hg4; have HA4 : Hid (SetAt2 w w4 x (.int .i64 x.size) (.slice A x.wins.length c) (some ⟨bk, off, none⟩) cn now v4 (out ++ [[(b : Int), (a : Int), 1]])) := settle_push HA3.out.rd HA3.out.bx HA3.out.be HOW.out.2.2.1 HOW.out.1 HOW.out.2.1 HOW.out.2.2.2.1 HOW.out.2.2.2.2 hown4 hg4; clear hown4 hg4))
              have HRI := l25Up_any (some ⟨bk, off, none⟩) cn now (b : Int) (a : Int) w4.drew HA4.out.rd.2.2.2.1 (by omega)
              rw [HA4.out.rd.1, HUP.out] at HRI
              have HRIH := Lib.hid HRI
              clear HRI k0 k1
              have k0 := rd_cell HA4.out.rd HAB.out.1
              have k1 := rd_cell HA4.out.rd HAB.out.2.1
              go_upto_region 9 with (fail)
              go_region_held3 (fun W => W.cell? ⟨bk, off + (i + 1), none⟩ = some (.int .i64 b) ∧ W.cell? ⟨bk, off + i, none⟩ = some (.int .i64 a)) (first | exact ⟨k0, k1⟩ | exact ⟨(BW.out.cell (p := ⟨bk, off + (i + 1), none⟩) HBK.out).trans k0, (BW.out.cell (p := ⟨bk, off + i, none⟩) HBK.out).trans k1⟩) (first
                | (go_at_call 20; refine HRIH.out.mono ?_; rintro e w5 ⟨v5, rfl, hf5, hb5⟩; obtain ⟨A5, c5, rfl, hc5, hm5⟩ := hf5.form; have HL5 : Hid ((swapAt now (i + 1)).length = x.wins.length) := (by show _ = _; rw [(swap_perm (k := i + 1) (Nat.succ_le_succ (Nat.zero_le _)) HAB.out.1 HAB.out.2.1).length_eq]; exact hlen2); have HA5 := Lib.hid (setAt2_next HA4.out hf5 ⟨hb5.os, hb5.tape, hb5.output, hb5.size, hb5.block⟩ HL5.out); have BW : Hid (Below w4.heap.size w4 w5) := below_undraw (q := 1) hb5; have HBK : Hid (bk < w4.heap.size) := block_lt_of_cell k0; clear hf5 hb5))
              go_wp2
              go_roundg q
              case measure => omega
              case rel => exact ⟨swapAt now (i + 1), 0, _, A5, c5, v4, by go_num, by rw [HL5.out], rfl, HN, HA5⟩
          · have HO : Hid (settleF x l = out) := by show _ = _; rw [HS2.out.2.2, settleS_end (by have := HS2.out.1.len; omega)]
            go_wp2
            go_ret
            exact ⟨_, rfl, by rw [HO.out]; exact HA.out.ow.wideLo (Nat.le_succ _), HA.out.be⟩
      · have HO : Hid (settleF x l = []) := settleF_no (fun h => h3 h.2.2)
        have h3' : ((l.length : Int) == x.size) = false := by simpa using h3
        have h3'' : ((l.length : Int) != x.size) = true := by simpa using h3
        go_enter Try.func5, Try.ntmps5
        go_wp2_with (first | (go_at_call 17; refine (specTourOk_any _ x _ (HS.out.1.below ((Below.refl _ w).alloc (Nat.le_refl _) _))).mono ?_; rintro e w1 ⟨rfl, hb⟩; rw [h1]; have q0 : w1.cell? ⟨w.heap.size, 0, none⟩ = some (.int .i64 x.size) := (by rw [hb.cell (p := ⟨w.heap.size, 0, none⟩) (by simp)]; simp [go_sem]); have HZ : Hid (w.heap.size < w1.heap.size) := Nat.lt_of_lt_of_le (by simp) hb.size; have HB : Hid (Below w.heap.size w w1) := ((Below.refl _ w).alloc (Nat.le_refl _) _).trans (hb.mono (by simp)); clear hb) | (go_at_call 18; refine (specLadderOk_any A2 c2 l w1 (HS.out.2.2.below HB.out) hn2).mono ?_; rintro e w2 ⟨rfl, hb⟩; rw [h2]; replace HB : Hid (Below w.heap.size w w2) := HB.out.trans (hb.mono HB.out.size); try replace q0 := (hb.cell (p := ⟨w.heap.size, 0, none⟩) HZ.out).trans q0; clear hb))
        go_ret
        exact ⟨_, rfl, by rw [HO.out]; exact OwS.nil _ (Nat.le_refl _) HB.out.size, HB.out⟩
end Go.Proofs.Ytkfpgbmlopfabaa
