/- Tables after some results: contracts (print/tables.py). -/
import Derived.Test.YthlkhmbndaecfaaTa
namespace Go.Proofs.Ythlkhmbndaecfaa
open Go.ChangeShapes Go.WideShapes Go.ChangeAt Go.RowKit

theorem below_fromDrew {B : Nat} {a w : World} (h : Below B a.drew w) : Below B a w := ⟨h.os, h.tape, h.output, h.size, h.block⟩

set_option maxHeartbeats 4000000 in
set_option maxRecDepth 100000 in
theorem implTableAfter_std (v : Value) (x : LeagueV) (i : Int) (w : World) (hs : InL w v x) (_hn : x.results.length ≤ 1048576) (_hi : (Lit.int .i64 i).wf = true) :
    Calls Try.prog 6 #[v, .int .i64 i] w fun e w' => ∃ v', e = .returned v' ∧ Fr w' w.heap.size w'.heap.size v' (afterT x i) ∧ Below w.heap.size w w' := by
  have hs0 := hs
  obtain ⟨A, c, rfl, hc, hm, hsl, hw⟩ := hs
  obtain ⟨cl, rs⟩ := x
  simp only at *
  have HS := Lib.hid hs0
  clear hs0 hsl
  have hcm : c ≤ 9223372036854775807 := by unfold maxLen at hm; omega
  have W1 : Hid (Below w.heap.size w (w.alloc (.cells #[.int .i64 cl, .slice A rs.length c] 25))) := (Below.refl _ w).alloc (Nat.le_refl _) _
  cases h1 : leagueB ⟨cl, rs⟩
  case false =>
    have HE : Hid (afterT ⟨cl, rs⟩ i = []) := by show _ = _; rw [afterT, h1]; rfl
    go_enter Try.func6, Try.ntmps6
    go_wp2_with fail
    refine (implLeagueOk_any _ _ _ (HS.out.below W1.out)).mono ?_
    rintro e w1 ⟨rfl, hb⟩
    rw [h1]
    have HB : Hid (Below w.heap.size w w1) := W1.out.trans (hb.mono (by simp))
    clear hb
    go_wp2_with fail
    go_ret
    exact ⟨_, rfl, by rw [HE.out]; exact Fr.nil _ (Nat.le_refl _), HB.out⟩
  cases h2 : inB i 0 (rs.length : Int)
  case false =>
    have HE : Hid (afterT ⟨cl, rs⟩ i = []) := by show _ = _; rw [afterT, h1]; simp [h2]
    go_enter Try.func6, Try.ntmps6
    go_wp2_with fail
    refine (implLeagueOk_any _ _ _ (HS.out.below W1.out)).mono ?_
    rintro e w1 ⟨rfl, hb⟩
    rw [h1]
    have q0 : w1.cell? ⟨w.heap.size, 0, none⟩ = some (.int .i64 cl) := by rw [hb.cell (p := ⟨w.heap.size, 0, none⟩) (by simp)]; simp
    have q1 : w1.cell? ⟨w.heap.size, 1, none⟩ = some (.slice A rs.length c) := by rw [hb.cell (p := ⟨w.heap.size, 1, none⟩) (by simp)]; simp
    have HB : Hid (Below w.heap.size w w1) := W1.out.trans (hb.mono (by simp))
    clear hb
    go_wp2_with fail
    refine (within_any _ _ _ _).mono ?_
    rintro e w' ⟨rfl, rfl⟩
    rw [h2]
    go_wp2
    go_ret
    exact ⟨_, rfl, by rw [HE.out]; exact Fr.nil _ (Nat.le_refl _), HB.out⟩
  · obtain ⟨i1, i2⟩ := inB_t.1 h2
    obtain ⟨k, rfl⟩ := Int.eq_ofNat_of_zero_le i1
    have hk : k ≤ rs.length := by omega
    have HE : Hid (afterT ⟨cl, rs⟩ k = tableL ⟨cl, rs.take k⟩) := by show _ = _; rw [afterT, h1]; simp [h2]
    have HT : Hid (InL w (.agg #[.int .i64 cl, .slice A k c]) ⟨cl, rs.take k⟩) := InL.take HS.out hk
    have i3 : (k : Int) ≤ (c : Int) := by omega
    have H2B := Lib.hid h2
    clear h2
    go_enter Try.func6, Try.ntmps6
    go_wp2_with fail
    refine (implLeagueOk_any _ _ _ (HS.out.below W1.out)).mono ?_
    rintro e w1 ⟨rfl, hb⟩
    rw [h1]
    have q0 : w1.cell? ⟨w.heap.size, 0, none⟩ = some (.int .i64 cl) := by rw [hb.cell (p := ⟨w.heap.size, 0, none⟩) (by simp)]; simp
    have q1 : w1.cell? ⟨w.heap.size, 1, none⟩ = some (.slice A rs.length c) := by rw [hb.cell (p := ⟨w.heap.size, 1, none⟩) (by simp)]; simp
    have HB : Hid (Below w.heap.size w w1) := W1.out.trans (hb.mono (by simp))
    have hlt1 : w.heap.size < w1.heap.size := by have := hb.size; simp at this; omega
    clear hb
    go_wp2_with fail
    refine (within_any _ _ _ _).mono ?_
    rintro e w' ⟨rfl, rfl⟩
    rw [H2B.out]
    go_wp2_with fail
    go_region_held3 (fun W => W.cell? ⟨w.heap.size, 0, none⟩ = some (.int .i64 cl) ∧ W.cell? ⟨w.heap.size, 1, none⟩ = some (.slice A rs.length c)) (first | exact ⟨q0, q1⟩) (first | (go_at_call 9; refine (implTableOf_any _ ⟨cl, rs.take k⟩ _ (InL.below HT.out (below_drewL HB.out))).mono ?_; rintro e w2 ⟨v2, rfl, hf, hb⟩; have q0 := (hb.cell (p := ⟨w.heap.size, 0, none⟩) hlt1).trans q0; have q1 := (hb.cell (p := ⟨w.heap.size, 1, none⟩) hlt1).trans q1; have H2 : Hid (Fr w2 w1.heap.size w2.heap.size v2 (tableL ⟨cl, rs.take k⟩) ∧ Below w.heap.size w w2) := ⟨hf, HB.out.trans ((below_fromDrew hb).mono HB.out.size)⟩; clear hf hb))
    go_wp2
    go_ret
    exact ⟨_, rfl, by rw [HE.out]; exact H2.out.1.wide HB.out.size (Nat.le_refl _) (Nat.le_refl _), H2.out.2⟩
end Go.Proofs.Ythlkhmbndaecfaa
