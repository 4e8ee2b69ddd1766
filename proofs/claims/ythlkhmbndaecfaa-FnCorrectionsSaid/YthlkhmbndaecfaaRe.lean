/- A result struck: the implementation's contract. -/
import Derived.Test.YthlkhmbndaecfaaDe
namespace Go.Proofs.Ythlkhmbndaecfaa
open Go.ChangeShapes Go.WideShapes Go.ChangeAt Go.RowKit

theorem removeOk {x : LeagueV} {k : Nat} (h : leagueB x = true) (hk : k < x.results.length) : leagueB ⟨x.clubs, x.results.take k ++ x.results.drop (k + 1)⟩ = true := by
  unfold leagueB at h ⊢
  simp only [Bool.and_eq_true, decide_eq_true_eq, List.all_append] at h ⊢
  obtain ⟨h1, h2, h3⟩ := h
  refine ⟨h1, ?_, ?_, ?_⟩
  · rw [List.length_append, List.length_take, List.length_drop]; omega
  · rw [List.all_eq_true] at h3 ⊢
    exact fun r hr => h3 r (List.mem_of_mem_take hr)
  · rw [List.all_eq_true] at h3 ⊢
    exact fun r hr => h3 r (List.mem_of_mem_drop hr)

set_option maxHeartbeats 4000000 in
set_option maxRecDepth 100000 in
theorem implRemoveResult_std (v : Value) (x : LeagueV) (i : Int) (w : World) (hs : InL w v x) (hn : x.results.length ≤ 1048576) (_hi : (Lit.int .i64 i).wf = true) :
    Calls Try.prog 13 #[v, .int .i64 i] w fun e w' => ∃ v', e = .returned (.tuple #[v', .bool (hasR x i)]) ∧ OwL w' w.heap.size w'.heap.size v' (removeF x i) ∧ Below w.heap.size w w' := by
  have hs0 := hs
  obtain ⟨A, c, rfl, hc, hm, hsl, hw⟩ := hs
  have HS := Lib.hid (And.intro hs0 hsl)
  clear hs0 hsl
  have hcm : c ≤ 9223372036854775807 := by unfold maxLen at hm; omega
  cases h1 : hasR x i
  · have HO : Hid (removeF x i = ⟨0, []⟩) := by show _ = _; simp [removeF, h1]
    go_enter Try.func13, Try.ntmps13
    go_wp2_with fail
    refine (hasResult_any _ x i _ (HS.out.1.below (((Below.refl _ w).alloc (Nat.le_refl _) _).alloc (by simp) _)) hn).mono ?_
    rintro e w1 ⟨rfl, hb⟩
    rw [h1]
    (try simp only [World.size_alloc] at hb)
    have r0 : w1.cell? ⟨w.heap.size + 1, 0, none⟩ = some (.int .i64 0) := by rw [hb.cell (p := ⟨w.heap.size + 1, 0, none⟩) (by show w.heap.size + 1 < _; first | omega | simp)]; simp [go_sem]
    have r1 : w1.cell? ⟨w.heap.size + 1, 1, none⟩ = some (.slice none 0 0) := by rw [hb.cell (p := ⟨w.heap.size + 1, 1, none⟩) (by show w.heap.size + 1 < _; first | omega | simp)]; simp [go_sem]
    have r2 : w1.frozen? ⟨w.heap.size + 1, 0, none⟩ = false := by rw [hb.frozen (p := ⟨w.heap.size + 1, 0, none⟩) (by show w.heap.size + 1 < _; first | omega | simp)]; simp [go_sem]
    have r3 : w1.frozen? ⟨w.heap.size + 1, 1, none⟩ = false := by rw [hb.frozen (p := ⟨w.heap.size + 1, 1, none⟩) (by show w.heap.size + 1 < _; first | omega | simp)]; simp [go_sem]
    have HB : Hid (Below w.heap.size w w1) := (((Below.refl _ w).alloc (Nat.le_refl _) _).alloc (by simp) _).trans (hb.mono (by first | omega | (simp; omega)))
    clear hb
    go_wp2
    have KP : Keep (w.heap.size + 1) (w.heap.size + 2) w1 ((w1.setCell ⟨w.heap.size + 1, 0, none⟩ (.int .i64 0)).setCell ⟨w.heap.size + 1, 1, none⟩ (.slice none 0 0)) :=
      ((Keep.refl _ _ _).setCell (p := ⟨w.heap.size + 1, 0, none⟩) (Nat.le_refl _) (Nat.lt_succ_self _) _).setCell (p := ⟨w.heap.size + 1, 1, none⟩) (Nat.le_refl _) (Nat.lt_succ_self _) _
    refine bodyPost_ret (v := .tuple #[.agg #[.int .i64 0, .slice none 0 0], .bool false]) (by simp [results, Try.results13, go_sem, r0, r1]) rfl ⟨_, rfl, ?_, HB.out.trans (KP.below (by omega) HB.out.size)⟩
    rw [HO.out]
    exact ⟨_, rfl, FrR.nil _ (Nat.le_refl _), by decide⟩
  · have hib : leagueB x = true ∧ inB i 0 ((x.results.length : Int) - 1) = true := by
      unfold hasR at h1; rw [Bool.and_eq_true] at h1; exact h1
    obtain ⟨i1, i2⟩ := inB_t.1 hib.2
    obtain ⟨k, rfl⟩ := Int.eq_ofNat_of_zero_le i1
    have hk : k < x.results.length := by omega
    have HO : Hid (removeF x k = ⟨x.clubs, x.results.take k ++ x.results.drop (k + 1)⟩) := by show _ = _; rw [removeF, h1, if_pos rfl, removeQ, Int.toNat_natCast]
    have HL : Hid (leagueB ⟨x.clubs, x.results.take k ++ x.results.drop (k + 1)⟩ = true) := removeOk hib.1 hk
    have hTL : (x.results.take k ++ x.results.drop (k + 1)).length = k + (x.results.length - (k + 1)) := by rw [List.length_append, List.length_take, List.length_drop]; omega
    have HTL := Lib.hid hTL
    have H1 := Lib.hid h1
    have HV : ∀ u, Hid (withV x.clubs (x.results.take k ++ x.results.drop (k + 1)) u = .agg #[.int .i64 x.clubs, u]) := by intro u; show _ = _; rw [withV, HL.out]; rfl
    have HVH := Lib.hid HV
    clear hib h1 hTL HV
    go_enter Try.func13, Try.ntmps13
    go_wp2_with fail
    refine (hasResult_any _ x _ _ (HS.out.1.below (((Below.refl _ w).alloc (Nat.le_refl _) _).alloc (by simp) _)) hn).mono ?_
    rintro e w1 ⟨rfl, hb⟩
    rw [H1.out]
    (try simp only [World.size_alloc] at hb)
    have q0 : w1.cell? ⟨w.heap.size, 0, none⟩ = some (.int .i64 x.clubs) := by rw [hb.cell (p := ⟨w.heap.size, 0, none⟩) (by show w.heap.size < _; first | omega | simp)]; simp [go_sem]
    have q1 : w1.cell? ⟨w.heap.size, 1, none⟩ = some (.slice A x.results.length c) := by rw [hb.cell (p := ⟨w.heap.size, 1, none⟩) (by show w.heap.size < _; first | omega | simp)]; simp [go_sem]
    have r0 : w1.cell? ⟨w.heap.size + 1, 0, none⟩ = some (.int .i64 0) := by rw [hb.cell (p := ⟨w.heap.size + 1, 0, none⟩) (by show w.heap.size + 1 < _; first | omega | simp)]; simp [go_sem]
    have r1 : w1.cell? ⟨w.heap.size + 1, 1, none⟩ = some (.slice none 0 0) := by rw [hb.cell (p := ⟨w.heap.size + 1, 1, none⟩) (by show w.heap.size + 1 < _; first | omega | simp)]; simp [go_sem]
    have r2 : w1.frozen? ⟨w.heap.size + 1, 0, none⟩ = false := by rw [hb.frozen (p := ⟨w.heap.size + 1, 0, none⟩) (by show w.heap.size + 1 < _; first | omega | simp)]; simp [go_sem]
    have r3 : w1.frozen? ⟨w.heap.size + 1, 1, none⟩ = false := by rw [hb.frozen (p := ⟨w.heap.size + 1, 1, none⟩) (by show w.heap.size + 1 < _; first | omega | simp)]; simp [go_sem]
    have hsz : w.heap.size + 2 ≤ w1.heap.size := by have := hb.size; simp at this; omega
    have HB : Hid (Below w.heap.size w w1) := (((Below.refl _ w).alloc (Nat.le_refl _) _).alloc (by simp) _).trans (hb.mono (by first | omega | (simp; omega)))
    have S1 : Hid (SlR w1 A x.results) := SlI.below HS.out.2 HB.out
    clear hb
    have j3 : (0 : Int) ≤ (k : Int) + 1 := by omega
    have j4 : (k : Int) + 1 ≤ (x.results.length : Int) := by omega
    have j6 : IntKind.i64.wrap ((k : Int) + 1) = (k : Int) + 1 := by rw [IntKind.wrap_i64]; omega
    go_wp2_with fail
    have KQ : Hid (∀ W, Below w1.heap.size w1 W → W.cell? ⟨w.heap.size, 0, none⟩ = some (.int .i64 x.clubs) ∧ W.cell? ⟨w.heap.size, 1, none⟩ = some (.slice A x.results.length c) ∧ W.cell? ⟨w.heap.size + 1, 0, none⟩ = some (.int .i64 0) ∧ W.cell? ⟨w.heap.size + 1, 1, none⟩ = some (.slice none 0 0) ∧ W.frozen? ⟨w.heap.size + 1, 0, none⟩ = false ∧ W.frozen? ⟨w.heap.size + 1, 1, none⟩ = false) := fun W h =>
      ⟨(h.cell (p := ⟨w.heap.size, 0, none⟩) (by show w.heap.size < _; omega)).trans q0, (h.cell (p := ⟨w.heap.size, 1, none⟩) (by show w.heap.size < _; omega)).trans q1, (h.cell (p := ⟨w.heap.size + 1, 0, none⟩) (by show w.heap.size + 1 < _; omega)).trans r0, (h.cell (p := ⟨w.heap.size + 1, 1, none⟩) (by show w.heap.size + 1 < _; omega)).trans r1, (h.frozen (p := ⟨w.heap.size + 1, 0, none⟩) (by show w.heap.size + 1 < _; omega)).trans r2, (h.frozen (p := ⟨w.heap.size + 1, 1, none⟩) (by show w.heap.size + 1 < _; omega)).trans r3⟩
    clear r0 r1 r2 r3
    go_region_held3 (fun W => W.cell? ⟨w.heap.size, 0, none⟩ = some (.int .i64 x.clubs) ∧ W.cell? ⟨w.heap.size, 1, none⟩ = some (.slice A x.results.length c)) (first | exact ⟨q0, q1⟩ | exact ⟨(KQ.out _ BW.out).1, (KQ.out _ BW.out).2.1⟩ | go_keep) (first
      | (go_at_call 37; refine (cloneR_any A c x.results w1.drew S1.out hn).mono ?_; rintro e w2 ⟨v2, rfl, hf, hb2⟩; obtain ⟨A2, c2, rfl, hc2, hm2⟩ := hf.form; obtain ⟨g, r9, rfl, -⟩ := hf.at_ hk; have BW : Hid (Below w1.heap.size w1 w2) := below_undraw (q := 1) hb2; have HF := Lib.hid hf; clear hf hb2)
      | (go_at_call 36; refine (deleteR_any g w1.heap.size w2.heap.size x.results.length c2 k x.results _ HF.out hk hn).mono ?_; rintro e w3 ⟨rfl, hf3, hk3⟩; have HWH := Lib.hid (with_any A (some ⟨g, 0, none⟩) x.results.length c c2 x.clubs (x.results.take k ++ x.results.drop (k + 1)) w3 hw hf3.sl (by rw [HTL.out]; omega) hm2); rw [HTL.out] at HWH; replace BW : Hid (Below w1.heap.size w1 w3) := BW.out.trans (hk3.below (Nat.le_refl _) BW.out.size); have HF3 := Lib.hid hf3; have HK3 := Lib.hid hk3; clear hf3 hk3)
      | (go_at_call 35; refine HWH.out.mono ?_; rintro e w4 ⟨rfl, hb4⟩; rw [(HVH.out _).out, HL.out]; have HF4 := Lib.hid (HF3.out.grow hb4); replace BW : Hid (Below w1.heap.size w1 w4) := BW.out.trans (hb4.mono BW.out.size); have HS4 : Hid (w2.heap.size ≤ w4.heap.size) := Nat.le_trans HK3.out.size hb4.size; clear hb4; obtain ⟨-, -, r0, r1, r2, r3⟩ := KQ.out _ BW.out))
    all_goals
      go_wp2
      have KP : Keep (w.heap.size + 1) (w.heap.size + 2) w4 ((w4.setCell ⟨w.heap.size + 1, 0, none⟩ (.int .i64 x.clubs)).setCell ⟨w.heap.size + 1, 1, none⟩ (.slice (some ⟨g, 0, none⟩) (k + (x.results.length - (k + 1))) c2)) :=
        ((Keep.refl _ _ _).setCell (p := ⟨w.heap.size + 1, 0, none⟩) (Nat.le_refl _) (Nat.lt_succ_self _) _).setCell (p := ⟨w.heap.size + 1, 1, none⟩) (Nat.le_refl _) (Nat.lt_succ_self _) _
      have B4 : Below w.heap.size w w4 := HB.out.trans (BW.out.mono HB.out.size)
      refine bodyPost_ret (v := .tuple #[.agg #[.int .i64 x.clubs, .slice (some ⟨g, 0, none⟩) (k + (x.results.length - (k + 1))) c2], .bool true]) (by simp [results, Try.results13, go_sem, r0, r1]) rfl ⟨_, rfl, ?_, B4.trans (KP.below (by omega) B4.size)⟩
      rw [HO.out]
      refine ⟨.slice (some ⟨g, 0, none⟩) (k + (x.results.length - (k + 1))) c2, rfl, ?_, hw⟩
      exact FrR.wide (lo' := w.heap.size) (HF4.out.keep KP (.inr hsz)) (by omega) (by have := KP.size; have := HS4.out; omega) (Nat.le_refl _)
end Go.Proofs.Ythlkhmbndaecfaa
