/- The law FnCorrections: the walk. -/
import Derived.Test.YthlkhmbndaecfaaFxt
import Derived.BigQuiet
import Derived.Deep.QuietTactic
import Derived.Deep.RegionHeld3
namespace Go.Proofs.Ythlkhmbndaecfaa
open Go.ChangeShapes Go.WideShapes Go.ChangeAt Go.RowKit

theorem makeLeagueZ (v : Value) (n : Nat) (M : Int) (w : World) (hv : InB w v n) (hn : n ≤ 1048576) (h0 : 0 ≤ M) (h1 : M ≤ 1048576) :
    Calls Try.prog 4 #[v, .int .i64 M] w fun e w' => ∃ (N : Nat) (A : Option Addr) (m c : Nat) (rs : List Res), e = .returned (.agg #[.int .i64 (N : Int), .slice A m c]) ∧ Lx ⟨(N : Int), rs⟩ N m ∧ N ≤ 6 ∧ m ≤ 12 ∧ InL w' (.agg #[.int .i64 (N : Int), .slice A m c]) ⟨(N : Int), rs⟩ ∧ Below w.heap.size w w' := by
  obtain ⟨k, rfl⟩ := Int.eq_ofNat_of_zero_le h0
  refine (makeLeague_any v n k w hv hn (by omega)).mono ?_
  rintro e w' ⟨⟨cl, rs⟩, A, c, rfl, hok, h6, h12, hin, hb⟩
  obtain ⟨N, rfl⟩ := Int.eq_ofNat_of_zero_le (show 0 ≤ cl by have := (leagueB_t hok).1; simp only at this; omega)
  exact ⟨N, A, rs.length, c, rs, rfl, ⟨hok, rfl, rfl⟩, by simp only at h6; omega, h12, hin, hb⟩
set_option maxHeartbeats 3000000 in
set_option maxRecDepth 100000 in
theorem lawFnCorrections (v : Value) (mc : Nat) (w : World) (hv : InB w v mc) :
    Calls Try.prog 3 #[v] w fun e w' => e = .returned (.bool true) ∧ Below w.heap.size w w' := by
  have HV := Lib.hid hv
  obtain ⟨A0, c0, rfl, hc, hm, -⟩ := hv
  unfold maxLen at hm
  by_cases hn : mc ≤ 1048576
  case neg =>
    go_enter Try.func3, Try.ntmps3
    go_wp2
    go_ret
    exact ⟨rfl, Below.refl _ _⟩
  go_enter Try.func3, Try.ntmps3
  go_wp2_with fail
  refine (makeLeagueZ _ mc _ _ HV.out hn (by decide) (by decide)).mono ?_
  rintro e w0 ⟨n, A, m, c, rs, rfl, hx, h6, h12, hin, hb⟩
  have X0 := Lib.hid (xS_new hin hb)
  have HX := Lib.hid hx
  have hn2 : 2 ≤ n := hx.bd.1
  have HVx : Hid (InB (w0.alloc (.cells #[.int .i64 (n : Int), .slice A m c] 25)) (.slice A0 mc c0) mc) := HV.out.below (hb.trans ((Below.refl _ w0).alloc hb.size _))
  have HCm : Hid (m ≤ c ∧ c ≤ maxLen) := by
    obtain ⟨A', c', e, h1, h2, -⟩ := hin
    injection e with e; injection e with e; injection e with _ e; injection e with e; injection e with e1 e2 e3
    subst e3; have := hx.len; simp only at this h1; exact ⟨by omega, h2⟩
  obtain ⟨hmc, hcc⟩ := HCm.out
  unfold maxLen at hcc
  have HLm : Hid (rs.length = m) := hx.len
  clear hx hin hb HCm
  obtain ⟨b, hbe⟩ : ∃ b, w0.heap.size = b := ⟨_, rfl⟩
  rw [hbe] at X0
  obtain ⟨⟨q0, q1⟩, -, -⟩ := lb_cell X0.out.hb
  have hbW : b < (w0.alloc (.cells #[.int .i64 (n : Int), .slice A m c] 25)).heap.size := by rw [World.size_alloc]; omega
  go_wp2_with fail
  generalize w0.alloc (.cells #[.int .i64 (n : Int), .slice A m c] 25) = W0 at *
  clear hbe
  have C0 := Lib.hid (fxC_of HX.out X0.out.inl)
  have KQ0 : Hid (∀ W, Below W0.heap.size W0 W → W.cell? ⟨b, 0, none⟩ = some (.int .i64 (n : Int)) ∧ W.cell? ⟨b, 1, none⟩ = some (.slice A m c)) := fun W hW => ⟨(hW.cell (p := ⟨b, 0, none⟩) hbW).trans q0, (hW.cell (p := ⟨b, 1, none⟩) hbW).trans q1⟩
  refine (C0.out.cLead _ (Below.refl _ _)).mono ?_
  rintro e W1 ⟨Al, cl, rfl, hl, hb⟩
  have HL := Lib.hid hl
  have HB : Hid (Below W0.heap.size W0 W1) := hb
  clear hl hb
  obtain ⟨M1, hM1⟩ : ∃ M1, m + 1 = M1 := ⟨_, rfl⟩
  rw [hM1] at HL ⊢
  replace q0 := (KQ0.out _ HB.out).1
  replace q1 := (KQ0.out _ HB.out).2
  go_wp2_with fail
  refine (C0.out.cAft _ HB.out).mono ?_
  rintro e W2 ⟨Af, cf, rfl, hf, hb⟩
  have HF := Lib.hid hf
  replace HL := Lib.hid (HL.out.below hb)
  replace HB : Hid (Below W0.heap.size W0 W2) := HB.out.trans (hb.mono HB.out.size)
  clear hf hb
  replace q0 := (KQ0.out _ HB.out).1
  replace q1 := (KQ0.out _ HB.out).2
  go_wp2_with fail
  have hmk := run_mkI (n := n) (by omega)
  have HD : Hid (Below W0.heap.size W0 (W2.alloc (mkO n)).drew ∧ InI (W2.alloc (mkO n)).drew (.slice (some ⟨W2.heap.size, 0, none⟩) n n) (List.replicate n 0)) := by
    refine ⟨below_drewL (HB.out.trans ((((Below.refl _ W2).alloc (Nat.le_refl _) _).mono HB.out.size))), ?_⟩
    have h := (fr_mkO (n := n) (by omega) W2).in_
    exact h
  have hd0 : (W2.alloc (mkO n)).drew.cell? ⟨b, 0, none⟩ = some (.int .i64 (n : Int)) := (KQ0.out _ (HB.out.trans ((((Below.refl _ W2).alloc (Nat.le_refl _) _).mono HB.out.size)))).1
  have hd1 : (W2.alloc (mkO n)).drew.cell? ⟨b, 1, none⟩ = some (.slice A m c) := (KQ0.out _ (HB.out.trans ((((Below.refl _ W2).alloc (Nat.le_refl _) _).mono HB.out.size)))).2
  go_region_held3 (fun W => W.cell? ⟨b, 0, none⟩ = some (.int .i64 (n : Int)) ∧ W.cell? ⟨b, 1, none⟩ = some (.slice A m c)) (first | exact ⟨q0, q1⟩ | exact ⟨hd0, hd1⟩ | exact KQ0.out _ HB3.out) (first | (go_at_call 7; (with_reducible refine (C0.out.cOff _ _ HD.out.1 HD.out.2).mono ?_); rintro e W3 ⟨Ao, co, rfl, ho, hb⟩; have HB3 : Hid (Below W0.heap.size W0 W3) := HD.out.1.trans (hb.mono HD.out.1.size)))
  have hb23 : Below W2.heap.size W2 W3 := by
    have b1 : Below W2.heap.size W2 (W2.alloc (mkO n)).drew := below_drewL ((Below.refl _ W2).alloc (Nat.le_refl _) _)
    exact b1.trans (hb.mono b1.size)
  have HO := Lib.hid ho
  replace HL := Lib.hid (HL.out.below hb23)
  replace HF := Lib.hid (HF.out.below hb23)
  have HE3 : Hid (Below w.heap.size w W3) := X0.out.be.trans (HB3.out.mono X0.out.be.size)
  have C3 := Lib.hid (C0.out.mono HB3.out)
  have KQ3 : Hid (∀ W, Below W3.heap.size W3 W → W.cell? ⟨b, 0, none⟩ = some (.int .i64 (n : Int)) ∧ W.cell? ⟨b, 1, none⟩ = some (.slice A m c)) := fun W hW => KQ0.out W (HB3.out.trans (hW.mono HB3.out.size))
  have HX3 : Hid (XS w W3 b n A m c rs ∧ InB W3 (.slice A0 mc c0) mc) := ⟨X0.out.grow HB3.out, HVx.out.below HB3.out⟩
  clear ho hb hb23 hd0 hd1 hmk HD HB3 q0 q1 HB KQ0 C0 X0 HVx
  obtain ⟨z, hz⟩ : ∃ z, (tableF n rs)[0]? = some z := ⟨_, List.getElem?_eq_getElem (by rw [HF.out.1]; omega)⟩
  have HZ : Hid ((tableF n rs)[0]? = some z ∧ (leadF ⟨(n : Int), rs⟩)[m]? = some z ∧ (leadF ⟨(n : Int), rs⟩)[0]? = some 0) := ⟨hz, HX.out.leadM.trans hz, HX.out.lead0⟩
  clear hz
  have hM0 : 0 < M1 := by omega
  obtain ⟨bl, ol, rfl, hcl⟩ := HL.out.some_ hM0
  obtain ⟨bf, of, rfl, hcf⟩ := HF.out.some_ (by omega)
  have KR3 : Hid (∀ W, Below W3.heap.size W3 W → W.cell? ⟨bl, ol + m, none⟩ = some (.int .i64 z) ∧ W.cell? ⟨bf, of, none⟩ = some (.int .i64 z) ∧ W.cell? ⟨bl, ol, none⟩ = some (.int .i64 0)) := fun W hW => by
    have kc : ∀ (p : Addr) (y : Value), W3.cell? p = some y → W.cell? p = some y := fun p y h => (hW.cell (block_lt_of_cell h)).trans h
    exact ⟨kc _ _ (hcl _ _ HZ.out.2.1), kc _ _ (hcf _ _ HZ.out.1), kc _ _ (hcl _ _ HZ.out.2.2)⟩
  clear hcl hcf
  have HS : Hid (∀ W A c A' c', InI W (.slice A n c) (tableF n rs) → InI W (.slice A' n c') (tableF n rs) → Calls Try.prog 8 #[.slice A n c, .slice A' n c'] W fun e w' => e = .returned (.bool true) ∧ W = w') := fun W A c A' c' h1 h2 => by
    have h := lawsSameB_any _ _ _ _ W h1 h2 (by rw [tableF_length]; omega) (by rw [tableF_length]; omega)
    rw [show (tableF n rs == tableF n rs) = true from beq_self_eq_true _] at h; exact h
  have q0 := (KQ3.out _ (Below.refl _ _)).1
  have q1 := (KQ3.out _ (Below.refl _ _)).2
  have HB : Hid (Below W3.heap.size W3 W3.drew) := below_drewL (Below.refl _ _)
  obtain ⟨q2, q3, q4⟩ := KR3.out _ (Below.refl _ _)
  have w1 : IntKind.i64.wrap ((m : Int) + 1) = (M1 : Int) := by rw [IntKind.wrap_i64]; omega
  have x1 : ((M1 : Int) != (M1 : Int)) = false := natEq_false rfl
  have x2 : ((n : Int) != (n : Int)) = false := natEq_false rfl
  have x3 : (z != z) = false := natEq_false rfl
  have i1 : (m : Int) < (M1 : Int) := by omega
  have i2 : 0 < n := by omega
  have i3 : (0 : Int) < (M1 : Int) := by omega
  have k0 : Hid True := trivial
  go_wp2_with fail
  try simp only [List.append]
  go_region_held3 (fun W => (W.cell? ⟨b, 0, none⟩ = some (.int .i64 (n : Int)) ∧ W.cell? ⟨b, 1, none⟩ = some (.slice A m c)) ∧ W.cell? ⟨bl, ol + m, none⟩ = some (.int .i64 z) ∧ W.cell? ⟨bf, of, none⟩ = some (.int .i64 z) ∧ W.cell? ⟨bl, ol, none⟩ = some (.int .i64 0)) (first | exact ⟨⟨q0, q1⟩, q2, q3, q4⟩ | exact ⟨KQ3.out _ HB.out, KR3.out _ HB.out⟩) (first
    | (go_at_call 9; have h_ := k0.out; clear h_ k0; (with_reducible refine (C3.out.cTab _ HB.out).mono ?_); rintro e x0 ⟨At, ct, rfl, ht, hb⟩; have HT := Lib.hid ht; clear ht; replace HB : Hid (Below W3.heap.size W3 x0) := HB.out.trans (hb.mono HB.out.size); clear hb; have k1 : Hid True := trivial)
    | (go_at_call 8; have h_ := k1.out; clear h_ k1; (with_reducible refine (HS.out _ _ _ _ _ (HF.out.below HB.out).in_ HT.out.in_).mono ?_); rintro e w_ ⟨rfl, rfl⟩; clear HT; have k2 : Hid True := trivial)
    | (go_at_call 8; have h_ := k2.out; clear h_ k2; (with_reducible refine (HS.out _ _ _ _ _ (HO.out.below HB.out).in_ (HF.out.below HB.out).in_).mono ?_); rintro e w_ ⟨rfl, rfl⟩; have k3 : Hid True := trivial)
    | (go_at_call 10; have h_ := k3.out; clear h_ k3; (with_reducible refine (C3.out.cMov _ HB.out).mono ?_); rintro e x3 ⟨rfl, hb⟩; replace HB : Hid (Below W3.heap.size W3 x3) := HB.out.trans (hb.mono HB.out.size); clear hb))
  clear q0 q1 q2 q3 q4 w1 x1 x2 i1 HO HS
  have HCL : Hid (∀ W, Below W3.heap.size W3 W → ∀ (j : Nat) (y : Int), (leadF ⟨(n : Int), rs⟩)[j]? = some y → W.cell? ⟨bl, ol + j, none⟩ = some (.int .i64 y)) := fun W hW j y hj => by
    rcases HL.out.2.2.2 with h | ⟨b', o', e, h⟩
    · rw [h] at hj; simp at hj
    · injection e with e; injection e with e1 e2; subst e1; subst e2
      have := h _ _ hj; exact (hW.cell (block_lt_of_cell this)).trans this
  have HCF : Hid (∀ W, Below W3.heap.size W3 W → ∀ (j : Nat) (y : Int), (tableF n rs)[j]? = some y → W.cell? ⟨bf, of + j, none⟩ = some (.int .i64 y)) := fun W hW j y hj => by
    rcases HF.out.2.2.2 with h | ⟨b', o', e, h⟩
    · rw [h] at hj; simp at hj
    · injection e with e; injection e with e1 e2; subst e1; subst e2
      have := h _ _ hj; exact (hW.cell (block_lt_of_cell this)).trans this
  have HLen : Hid ((leadF ⟨(n : Int), rs⟩).length = M1) := HL.out.1
  clear HL HF KR3 HZ
  have x3 := HB.out
  clear x3
  go_wp2
  go_loopw [9, 10] (fun s i wr => ∃ k : Nat, k ≤ m ∧ i = .int .i64 ((k : Int) + 1) ∧ s = .int .i64 (diffs (leadF ⟨(n : Int), rs⟩) k : Nat) ∧ Hid (Below W3.heap.size W3 wr)) (fun _ i _ => m + 1 - (intOf i).toNat)
  case atStart => exact ⟨0, by omega, rfl, rfl, HB.out⟩
  case round =>
    obtain ⟨k, hk, rfl, rfl, HR⟩ := hrel
    clear HB
    by_cases hlt : k < m
    case pos =>
      obtain ⟨y1, hy1⟩ : ∃ y, (leadF ⟨(n : Int), rs⟩)[k + 1]? = some y := ⟨_, List.getElem?_eq_getElem (by rw [HLen.out]; omega)⟩
      obtain ⟨y0, hy0⟩ : ∃ y, (leadF ⟨(n : Int), rs⟩)[k]? = some y := ⟨_, List.getElem?_eq_getElem (by rw [HLen.out]; omega)⟩
      have HD : Hid (diffs (leadF ⟨(n : Int), rs⟩) (k + 1) = diffs (leadF ⟨(n : Int), rs⟩) k + (if y1 = y0 then 0 else 1)) := by
        show _ = _; rw [diffs, List.getD_eq_getElem?_getD, List.getD_eq_getElem?_getD, hy1, hy0]; rfl
      have HDl := diffs_le (leadF ⟨(n : Int), rs⟩) k
      have ca := HCL.out _ HR.out _ _ hy1
      have cb := HCL.out _ HR.out _ _ hy0
      have i1 : (0 : Int) ≤ (k : Int) + 1 := by omega
      have i2 : (k : Int) + 1 < (M1 : Int) := by omega
      have i3 : ((k : Int) + 1).toNat = k + 1 := by omega
      have i4 : (k : Int) < (M1 : Int) := by omega
      have i5 : (k : Int) + 1 ≤ (m : Int) := by omega
      clear hy1 hy0
      generalize diffs (leadF ⟨(n : Int), rs⟩) k = dk at *
      by_cases hd : y1 = y0
      · have t1 : (y1 != y0) = false := by simp [hd]
        rw [if_pos hd] at HD
        clear hd
        go_wp2_with fail
        go_quiet (fail)
        rename_i nq
        have HR2 : Hid (Below W3.heap.size W3 (wr.drewN nq)) := below_drewN HR.out nq
        generalize wr.drewN nq = w5 at *
        go_wp2
        go_roundw
        all_goals first | exact ⟨k + 1, by omega, by go_num, by rw [HD.out]; rfl, HR2⟩ | (simp [intOf]; try omega)
      · have t1 : (y1 != y0) = true := by simp [hd]
        rw [if_neg hd] at HD
        clear hd
        go_wp2_with fail
        go_quiet (fail)
        rename_i nq
        have HR2 : Hid (Below W3.heap.size W3 (wr.drewN nq)) := below_drewN HR.out nq
        generalize wr.drewN nq = w5 at *
        go_wp2
        go_roundw
        all_goals first | exact ⟨k + 1, by omega, by go_num, by rw [HD.out]; go_num, HR2⟩ | (simp [intOf]; try omega)
    obtain rfl : m = k := by omega
    have i5 : ¬ ((m : Int) + 1 ≤ (m : Int)) := by omega
    have HDl := diffs_le (leadF ⟨(n : Int), rs⟩) m
    obtain ⟨dm, hdm⟩ : ∃ d, diffs (leadF ⟨(n : Int), rs⟩) m = d := ⟨_, rfl⟩
    have HDM := Lib.hid hdm
    rw [hdm]
    rw [hdm] at HDl
    clear hdm
    obtain ⟨wo, rfl⟩ : ∃ W, W = wr := ⟨wr, rfl⟩
    go_wp2
    refine fxLoop2 W3 wo n m M1 b bl ol bf of cl cf c A rs HX h6 h12 hn2 hmc hcc hM1 HLm C3 KQ3 HCL HCF HLen HR.out _ _ _ _ _ _ _ _ _ _ _ _ _ _ _ _ _ _ _ _ _ _ _ _ _ _ _ _ _ _ _ _ _ _ _ _ _ _ _ _ _ _ _ _ _ _ _ _ _ _ _ _ _ _ _ _ _ _ _ _ _ _ _ _ _ _ _ _ _ _ _ _ _ _ _ _ _ _ _ _ _ _ _ _ _ _ _ _ _ _ _ _ _ _ _ _ _ _ _ _ _ _ _ _ _ _ _ _ _ _ _ _ _ _ _ _ _ _ _ _ _ _ _ _ _ _ _ _ _ _ _ _ _ _ _ _ _ _ _ _ _ _ _ _ _ _ _ _ _ _ _ _ _ _ _ _ _ _ _ _ _ _ _ _ _ _ _ _ _ _ _ _ _ _ _ _ _ _ _ _ _ _ _ _ _ _ _ _ _ _ _ _ _ _ _ _ _ _ _ _ _ _ _ _ _ _ _ _ _ _ _ _ _ _ _ _ _ _ _ _ _ _ _ _ _ _ _ _ _ _ _ _ _ _ _ _ _ _ _ _ _ _ _ _ _ _ _ _ _ _ _ _ _ _ _ _ _ _ _ _ _ _ _ _ _ _ _ _ _ _ _ _ _ _ _ _ _ _ _ _ _ _ _ _ _ _ _ _ _ _ _ _ _ _ _ _ _ _ _ _ _ _ _ _ _ _ _ _ _ _ _ _ _ _ _ _ _ _ _ _ _ _ _ _ _ _ _ _ _ _ _ _ _ _ _ _ _ _ _ _ _ _ _ _ _ _ _ _ _ _ _ _ _ _ _ _ _ _ _ _ _ _ _ _ _ _ _ _ _ _ _ _ _ _ _ _ _ _ _ _ _ _ _ ?_
    intro a' w'' hx
    obtain ⟨hB, hx⟩ := hx
    obtain ⟨e2, hx⟩ := hx
    obtain ⟨e11, hx⟩ := hx
    obtain ⟨e12, hx⟩ := hx
    obtain ⟨e13, hx⟩ := hx
    obtain ⟨e14, hx⟩ := hx
    obtain ⟨e114, hx⟩ := hx
    obtain ⟨e115, hx⟩ := hx
    obtain ⟨e116, hx⟩ := hx
    obtain ⟨e117, hx⟩ := hx
    obtain ⟨e118, hx⟩ := hx
    obtain ⟨e119, hx⟩ := hx
    obtain ⟨e120, hx⟩ := hx
    obtain ⟨e121, hx⟩ := hx
    obtain ⟨e122, hx⟩ := hx
    obtain ⟨e123, hx⟩ := hx
    obtain ⟨e124, hx⟩ := hx
    obtain ⟨e125, hx⟩ := hx
    obtain ⟨e126, hx⟩ := hx
    obtain ⟨e127, hx⟩ := hx
    obtain ⟨e128, hx⟩ := hx
    obtain ⟨e129, hx⟩ := hx
    obtain ⟨e130, hx⟩ := hx
    obtain ⟨e131, hx⟩ := hx
    obtain ⟨e132, hx⟩ := hx
    obtain ⟨e133, hx⟩ := hx
    obtain ⟨e134, hx⟩ := hx
    obtain ⟨e135, hx⟩ := hx
    obtain ⟨e136, hx⟩ := hx
    obtain ⟨e137, hx⟩ := hx
    obtain ⟨e138, hx⟩ := hx
    obtain ⟨e139, hx⟩ := hx
    obtain ⟨e140, hx⟩ := hx
    obtain ⟨e141, hx⟩ := hx
    obtain ⟨e142, hx⟩ := hx
    obtain ⟨e143, hx⟩ := hx
    obtain ⟨e144, hx⟩ := hx
    obtain ⟨e145, hx⟩ := hx
    obtain ⟨e146, hx⟩ := hx
    obtain ⟨e147, hx⟩ := hx
    obtain ⟨e148, hx⟩ := hx
    obtain ⟨e149, hx⟩ := hx
    obtain ⟨e150, hx⟩ := hx
    obtain ⟨e151, hx⟩ := hx
    obtain ⟨e152, hx⟩ := hx
    obtain ⟨e153, hx⟩ := hx
    obtain ⟨e154, hx⟩ := hx
    obtain ⟨e155, hx⟩ := hx
    obtain ⟨e156, hx⟩ := hx
    obtain ⟨e157, hx⟩ := hx
    obtain ⟨e158, hx⟩ := hx
    obtain ⟨e159, hx⟩ := hx
    obtain ⟨e160, hx⟩ := hx
    obtain ⟨e161, hx⟩ := hx
    obtain ⟨e162, hx⟩ := hx
    obtain ⟨e163, hx⟩ := hx
    obtain ⟨e164, hx⟩ := hx
    obtain ⟨e165, hx⟩ := hx
    obtain ⟨e166, hx⟩ := hx
    obtain ⟨e167, hx⟩ := hx
    obtain ⟨e168, hx⟩ := hx
    obtain ⟨e169, hx⟩ := hx
    obtain ⟨e170, hx⟩ := hx
    subst hx
    apply_assumption
    exact fxTail w W3 w'' n m b c mc c0 dm A A0 rs HX h6 h12 hn2 hmc hcc hn hc hm HLm C3 KQ3 HX3 HE3 HDl HDM hB _ _ _ _ _ _ _ _ _ _ _ _ _ _ _ _ _ _ _ _ _ _ _ _ _ _ _ _ _ _ _ _ _ _ _ _ _ _ _ _ _ _ _ _ _ _ _ _ _ _ _ _ _ _ _ _ _ _ _ _ _ _ _ _ _ _ _ _ _ _ _ _ _ _ _ _ _ _ _ _ _ _ _ _ _ _ _ _ _ _ _ _ _ _ _ _ _ _ _ _ _ _ _ _ _ _ _ _ _ _ _ _ _ _ _ _ _ _ _ _ _ _ _ _ _ _ _ _ _ _ _ _ _ _ _ _ _ _ _ _ _ _ _ _ _ _ _ _ _ _ _ _ _ _ _ _ _ _ _ _ _ _ _ _ _ _ _ _ _ _ _ _ _ _ _ _ _ _ _ _ _ _ _ _ _ _ _ _ _ _ _ _ _ _ _ _ _ _ _ _ _ _ _ _ _ _ _ _ _ _ _ _ _ _ _ _ _ _ _ _ _ _ _ _ _ _ _ _ _ _ _ _ _ _ _ _ _ _ _ _ _ _ _ _ _ _ _ _ _ _ _ _ _ _ _ _ _ _ _ _ _ _ _ _ _ _ _ _ _ _ _ _ _ _ _ _ _ _ _ _ _ _ _ _ _ _ _ _ _ _ _ _ _ _ _ _ _ _ _ _ _ _ _ _ _ _ _ _ _ _ _ _ _ _ _ _ _ _ _ _ _ _ _ _ _ _ _ _ _ _ _ _ _ _ _ _ _ _ _ _ _ _ _ _ _ _ _ _ _ _ _ _ _ _ _ _ _ _ _ _ _ _ _ _ _ _ _ _ _ _ _ _ _ _ _ _ _ _ _ _ _ _ _
end Go.Proofs.Ythlkhmbndaecfaa
