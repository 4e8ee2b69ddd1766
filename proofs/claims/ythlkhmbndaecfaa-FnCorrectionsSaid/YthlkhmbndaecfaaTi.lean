/- The table of a league: the program's. -/
import Derived.Test.YthlkhmbndaecfaaGp
import Derived.Test.YthlkhmbndaecfaaGq
import Derived.Test.YthlkhmbndaecfaaSo
namespace Go.Proofs.Ythlkhmbndaecfaa
open Go.ChangeShapes Go.WideShapes Go.ChangeAt Go.RowKit

theorem slI_new3 (w : World) (a b c : Int) : SlI (w.alloc (.cells #[.int .i64 a, .int .i64 b, .int .i64 c] 3)) (some ⟨w.heap.size, 0, none⟩) [a, b, c] := by
  refine .inr ⟨_, _, rfl, fun k x hk => ?_⟩
  match k, hk with
  | 0, hk => simp at hk; subst hk; simp
  | 1, hk => simp at hk; subst hk; simp
  | 2, hk => simp at hk; subst hk; simp
theorem cmpOr3_any (a b c : Int) (w : World) (A : Option Addr) (h : SlI w A [a, b, c]) :
    Calls Try.prog 30 #[.slice A 3 3] w fun e w' => e = .returned (.int .i64 (orF a b c)) ∧ w = w' := by
  have := cmpOr_any A 3 [a, b, c] w h (by simp)
  rw [orL3] at this; exact this
set_option maxHeartbeats 4000000 in
set_option maxRecDepth 100000 in
theorem tableLess_any (x : LeagueV) (hok : leagueB x = true) (n : Nat) (_hcl : x.clubs = n) (A : Option Addr) (c bq bp gp cp : Nat) (a b : Nat) (W : World) (ha : a < n) (hb : b < n)
    (hi : InL W (.agg #[.int .i64 (n : Int), .slice A x.results.length c]) x) (q0 : W.cell? ⟨bq, 0, none⟩ = some (.int .i64 (n : Int))) (q1 : W.cell? ⟨bq, 1, none⟩ = some (.slice A x.results.length c)) (hbq : bq < W.heap.size)
    (p0 : W.cell? ⟨bp, 0, none⟩ = some (.slice (some ⟨gp, 0, none⟩) n cp)) (hbp : bp < W.heap.size) (hp : SlI W (some ⟨gp, 0, none⟩) (ptsF n x.results)) (hgp : gp < W.heap.size) :
    Calls Try.prog 28 #[.int .i64 (a : Int), .int .i64 (b : Int), .pointer (some ⟨bq, 0, none⟩), .pointer (some ⟨bp, 0, none⟩)] W fun e W' => ∃ c : Int, e = .returned (.int .i64 c) ∧ (c < 0 ↔ keyT (ptsF n x.results) x.results b < keyT (ptsF n x.results) x.results a) ∧ Below W.heap.size W W' := by
  obtain ⟨_, _, l3, l4⟩ := leagueB_t hok
  have ma := made_cap (c := (a : Int)) l4
  have mb := made_cap (c := (b : Int)) l4
  have la := lost_cap (c := (a : Int)) l4
  have lb := lost_cap (c := (b : Int)) l4
  obtain ⟨pa, ea, ea2, pa1, pa2⟩ := ptsF_get (rs := x.results) ha
  obtain ⟨pb, eb, eb2, pb1, pb2⟩ := ptsF_get (rs := x.results) hb
  have HK := keyT_cmp (p := pa) (q := pb) (d := madeF a x.results - lostF a x.results) (e := madeF b x.results - lostF b x.results) (m := madeF a x.results) (n := madeF b x.results) (by omega) (by omega) (by omega) (by omega)
  have HKK : Hid (orF (pb - pa) (madeF b x.results - lostF b x.results - (madeF a x.results - lostF a x.results)) (madeF b x.results - madeF a x.results) < 0 ↔ keyT (ptsF n x.results) x.results b < keyT (ptsF n x.results) x.results a) := by
    show _ ↔ _
    rw [HK, keyT, keyT, Int.toNat_natCast, Int.toNat_natCast, ea2, eb2, Int.add_sub_assoc, Int.add_sub_assoc]
  have HG1 := Lib.hid (fun W hi => implGoals_any (.agg #[.int .i64 (n : Int), .slice A x.results.length c]) x a W hi hok)
  have HG2 := Lib.hid (fun W hi => implGoals_any (.agg #[.int .i64 (n : Int), .slice A x.results.length c]) x b W hi hok)
  have m1 : 0 ≤ madeF a x.results ∧ madeF a x.results ≤ 5940 := by omega
  have m2 : 0 ≤ lostF a x.results ∧ lostF a x.results ≤ 5940 := by omega
  have m3 : 0 ≤ madeF b x.results ∧ madeF b x.results ≤ 5940 := by omega
  have m4 : 0 ≤ lostF b x.results ∧ lostF b x.results ≤ 5940 := by omega
  obtain ⟨b1, o1, x1, e1, y1, ca, _⟩ := hp.at_ (k := a) (by rw [ptsF_length]; exact ha)
  obtain ⟨b2, o2, x2, e2, y2, cb, _⟩ := hp.at_ (k := b) (by rw [ptsF_length]; exact hb)
  injection e1 with e1; injection e1 with r1 r2; subst r1; subst r2
  injection e2 with e2; injection e2 with r1 r2; subst r1; subst r2
  rw [ea] at y1; injection y1 with y1; subst y1
  rw [eb] at y2; injection y2 with y2; subst y2
  have HI := Lib.hid hi
  have WE : Hid (IntKind.i64.wrap (pb - pa) = pb - pa ∧ IntKind.i64.wrap (madeF b x.results - lostF b x.results) = madeF b x.results - lostF b x.results ∧ IntKind.i64.wrap (madeF a x.results - lostF a x.results) = madeF a x.results - lostF a x.results ∧ IntKind.i64.wrap (madeF b x.results - lostF b x.results - (madeF a x.results - lostF a x.results)) = madeF b x.results - lostF b x.results - (madeF a x.results - lostF a x.results) ∧ IntKind.i64.wrap (madeF b x.results - madeF a x.results) = madeF b x.results - madeF a x.results) := by
    refine ⟨?_, ?_, ?_, ?_, ?_⟩ <;> (rw [IntKind.wrap_i64]; omega)
  clear HK ma mb la lb ea ea2 eb eb2 hi hp l4
  generalize madeF a x.results = MA at *
  generalize lostF a x.results = LA at *
  generalize madeF b x.results = MB at *
  generalize lostF b x.results = LB at *
  obtain ⟨m11, m12⟩ := m1
  obtain ⟨m21, m22⟩ := m2
  obtain ⟨m31, m32⟩ := m3
  obtain ⟨m41, m42⟩ := m4
  have HC : Hid (∀ W', Below W.heap.size W W' → W'.cell? ⟨bq, 0, none⟩ = some (.int .i64 (n : Int)) ∧ W'.cell? ⟨bq, 1, none⟩ = some (.slice A x.results.length c) ∧ W'.cell? ⟨bp, 0, none⟩ = some (.slice (some ⟨gp, 0, none⟩) n cp) ∧ W'.cell? ⟨gp, 0 + a, none⟩ = some (.int .i64 pa) ∧ W'.cell? ⟨gp, 0 + b, none⟩ = some (.int .i64 pb)) :=
    fun W' h => ⟨(h.cell (p := ⟨bq, 0, none⟩) hbq).trans q0, (h.cell (p := ⟨bq, 1, none⟩) hbq).trans q1, (h.cell (p := ⟨bp, 0, none⟩) hbp).trans p0, (h.cell (p := ⟨gp, 0 + a, none⟩) hgp).trans ca, (h.cell (p := ⟨gp, 0 + b, none⟩) hgp).trans cb⟩
  clear p0 ca cb
  go_enter Try.func28, Try.ntmps28
  go_wp2_with fail
  refine (HG1.out _ HI.out).mono ?_
  rintro e w1 ⟨rfl, hb1⟩
  have B1 := Lib.hid hb1
  obtain ⟨q0', q1', -⟩ := HC.out w1 hb1
  clear hb1 q0 q1
  go_wp2_with fail
  refine (HG2.out _ (HI.out.below B1.out)).mono ?_
  rintro e w2 ⟨rfl, hb2⟩
  have B2 : Hid (Below W.heap.size W w2) := B1.out.trans (hb2.mono B1.out.size)
  clear hb2 q0' q1'
  obtain ⟨-, -, p0, ca, cb⟩ := HC.out w2 B2.out
  rw [Nat.zero_add] at ca cb
  have a1 : (a : Int) < (n : Int) := by omega
  have a2 : (b : Int) < (n : Int) := by omega
  go_wp2_with fail
  go_region_held3 (fun V => V.cell? ⟨bp, 0, none⟩ = some (.slice (some ⟨gp, 0, none⟩) n cp) ∧ V.cell? ⟨gp, b, none⟩ = some (.int .i64 pb) ∧ V.cell? ⟨gp, a, none⟩ = some (.int .i64 pa)) (first | exact ⟨p0, cb, ca⟩ | go_keep) (first | (go_at_call 30; refine (cmpOr3_any _ _ _ _ _ (SlI.drew (slI_new3 w2 _ _ _))).mono ?_; rintro e w3 ⟨rfl, rfl⟩))
  go_wp2
  go_ret
  exact ⟨_, rfl, by rw [WE.out.1, WE.out.2.1, WE.out.2.2.1, WE.out.2.2.2.1, WE.out.2.2.2.2]; exact HKK.out, below_drewL (B2.out.alloc B2.out.size _)⟩

set_option maxHeartbeats 4000000 in
set_option maxRecDepth 100000 in
theorem implTableOf_any (v : Value) (x : LeagueV) (w : World) (hs : InL w v x) :
    Calls Try.prog 9 #[v] w fun e w' => ∃ v', e = .returned v' ∧ Fr w' w.heap.size w'.heap.size v' (tableL x) ∧ Below w.heap.size w w' := by
  have hs0 := hs
  obtain ⟨A, c, rfl, hc, hm, hsl, hw⟩ := hs
  have HS := Lib.hid (And.intro hs0 hsl)
  clear hs0 hsl
  cases h1 : leagueB x
  · have HE : Hid (tableL x = []) := by show _ = _; rw [tableL, h1]; rfl
    go_enter Try.func9, Try.ntmps9
    go_wp2_with fail
    refine (implLeagueOk_any _ x _ (HS.out.1.below ((Below.refl _ w).alloc (Nat.le_refl _) _))).mono ?_
    rintro e w1 ⟨rfl, hb⟩
    rw [h1]
    have HB : Hid (Below w.heap.size w w1) := ((Below.refl _ w).alloc (Nat.le_refl _) _).trans (hb.mono (by simp))
    clear hb
    go_wp2
    go_ret
    exact ⟨_, rfl, by rw [HE.out]; exact Fr.nil _ (Nat.le_refl _), HB.out⟩
  · obtain ⟨l1, l2, _, _⟩ := leagueB_t h1
    obtain ⟨n, hcl⟩ := Int.eq_ofNat_of_zero_le (show 0 ≤ x.clubs by omega)
    have HE : Hid (tableL x = tableF n x.results) := by show _ = _; rw [tableL, h1, if_pos rfl, hcl, Int.toNat_natCast]
    have hP := ptsF_length n x.results
    have H1 := Lib.hid (And.intro h1 (And.intro hcl hP))
    rw [hcl] at l1 l2 HS
    rw [hcl]
    clear h1 hcl hP
    go_enter Try.func9, Try.ntmps9
    go_wp2_with fail
    refine (implLeagueOk_any _ x _ (HS.out.1.below ((Below.refl _ w).alloc (Nat.le_refl _) _))).mono ?_
    rintro e w1 ⟨rfl, hb⟩
    rw [H1.out.1]
    have q0 : w1.cell? ⟨w.heap.size, 0, none⟩ = some (.int .i64 (n : Int)) := by rw [hb.cell (p := ⟨w.heap.size, 0, none⟩) (by simp)]; simp
    have q1 : w1.cell? ⟨w.heap.size, 1, none⟩ = some (.slice A x.results.length c) := by rw [hb.cell (p := ⟨w.heap.size, 1, none⟩) (by simp)]; simp
    have HB : Hid (Below w.heap.size w w1) := ((Below.refl _ w).alloc (Nat.le_refl _) _).trans (hb.mono (by simp))
    have HQ : Hid (w1.cell? ⟨w.heap.size, 0, none⟩ = some (.int .i64 (n : Int)) ∧ w1.cell? ⟨w.heap.size, 1, none⟩ = some (.slice A x.results.length c) ∧ w.heap.size < w1.heap.size) := ⟨q0, q1, by have := hb.size; simp at this; omega⟩
    clear hb
    go_wp2_with fail
    refine (implPoints_any _ x w1 (HS.out.1.below HB.out) H1.out.1).mono ?_
    rintro e w2 ⟨v2, rfl, hf, hb⟩
    rw [H1.out.2.1, Int.toNat_natCast] at hf
    obtain ⟨gp, cp, rfl, hg1, hg2⟩ := hf.someA (by rw [H1.out.2.2]; omega)
    rw [H1.out.2.2] at hf
    rw [H1.out.2.2]
    have q0' := (hb.cell (p := ⟨w.heap.size, 0, none⟩) HQ.out.2.2).trans HQ.out.1
    have hsz2 : w.heap.size < w2.heap.size := Nat.lt_of_lt_of_le HQ.out.2.2 hb.size
    have H2 : Hid (Below w.heap.size w w2 ∧ SlI w2 (some ⟨gp, 0, none⟩) (ptsF n x.results) ∧ w2.cell? ⟨w.heap.size, 1, none⟩ = some (.slice A x.results.length c) ∧ w2.cell? ⟨w.heap.size, 0, none⟩ = some (.int .i64 (n : Int)) ∧ (w2.alloc (.cells #[.slice (some ⟨gp, 0, none⟩) n cp] 27)).cell? ⟨w2.heap.size, 0, none⟩ = some (.slice (some ⟨gp, 0, none⟩) n cp) ∧ Below w2.heap.size w2 (w2.alloc (.cells #[.slice (some ⟨gp, 0, none⟩) n cp] 27)) ∧ w2.heap.size < (w2.alloc (.cells #[.slice (some ⟨gp, 0, none⟩) n cp] 27)).heap.size) :=
      ⟨HB.out.trans (hb.mono HB.out.size), hf.sl, (hb.cell (p := ⟨w.heap.size, 1, none⟩) HQ.out.2.2).trans HQ.out.2.1, q0', by simp, (Below.refl _ w2).alloc (Nat.le_refl _) _, by simp⟩
    have hne : ¬ w.heap.size = w2.heap.size := by omega
    clear hb hf q0 q1 HQ HB
    go_wp2_with fail
    generalize (w2.alloc (.cells #[.slice (some ⟨gp, 0, none⟩) n cp] 27)) = w3 at *
    refine (indices_any n w3 (by omega)).mono ?_
    rintro e w4 ⟨v4, rfl, hf, hb⟩
    obtain ⟨gi, ci, rfl, hi1, hi2⟩ := hf.someA (by rw [idxs_length]; omega)
    rw [idxs_length] at hf
    have HF4 := Lib.hid (And.intro hf hb)
    have hsz4 := hb.size
    have hbp := H2.out.2.2.2.2.2.2
    clear hf hb q0' hne
    have HC : Hid (CmpBy w4 w3.heap.size w4.heap.size 28 #[.pointer (some ⟨w.heap.size, 0, none⟩), .pointer (some ⟨w2.heap.size, 0, none⟩)] (idxs n) (keyT (ptsF n x.results) x.results)) := by
      show CmpBy _ _ _ _ _ _ _
      intro W a b hk ha hb
      obtain ⟨a1, a2⟩ := idxs_mem.1 ha
      obtain ⟨b1, b2⟩ := idxs_mem.1 hb
      obtain ⟨a, rfl⟩ := Int.eq_ofNat_of_zero_le a1
      obtain ⟨b, rfl⟩ := Int.eq_ofNat_of_zero_le b1
      have B3 : Below w3.heap.size w3 W := HF4.out.2.trans (hk.below (Nat.le_refl _) hsz4)
      have B2 : Below w2.heap.size w2 W := H2.out.2.2.2.2.2.1.trans (B3.mono (Nat.le_of_lt hbp))
      have B0 : Below w.heap.size w W := H2.out.1.trans (B2.mono (Nat.le_of_lt hsz2))
      have hW := B3.size
      exact tableLess_any x H1.out.1 n H1.out.2.1 A c w.heap.size w2.heap.size gp cp a b W (by omega) (by omega) (HS.out.1.below B0) ((B2.cell (p := ⟨w.heap.size, 0, none⟩) hsz2).trans H2.out.2.2.2.1) ((B2.cell (p := ⟨w.heap.size, 1, none⟩) hsz2).trans H2.out.2.2.1) (by omega) ((B3.cell (p := ⟨w2.heap.size, 0, none⟩) hbp).trans H2.out.2.2.2.2.1) (by omega) (SlI.below H2.out.2.1 B2) (by omega)
    have HSS := sortStable_any w4 w3.heap.size w4.heap.size gi ci (idxs n) (keyT (ptsF n x.results) x.results) 28 #[.pointer (some ⟨w.heap.size, 0, none⟩), .pointer (some ⟨w2.heap.size, 0, none⟩)] (by rw [idxs_length]; exact HF4.out.1) (by rw [idxs_length]; omega) (by rw [idxs_length]; omega) (fun _ _ => by kernel_rfl) HC.out
    rw [idxs_length] at HSS
    have HSH := Lib.hid HSS
    rw [idxs_length]
    clear HSS
    go_wp2_with fail
    refine HSH.out.mono ?_
    rintro e w5 ⟨rfl, hf5, kp5⟩
    have H5 : Hid (Fr w5 w3.heap.size w4.heap.size (.slice (some ⟨gi, 0, none⟩) n ci) (tableL x) ∧ Keep w3.heap.size w4.heap.size w4 w5) := ⟨by rw [HE.out]; exact hf5, kp5⟩
    clear hf5 kp5
    go_wp2
    go_ret
    have hs3 : w.heap.size ≤ w3.heap.size := by omega
    have B4 : Below w.heap.size w w4 := H2.out.1.trans ((H2.out.2.2.2.2.2.1.trans (HF4.out.2.mono (Nat.le_of_lt hbp))).mono (Nat.le_of_lt hsz2))
    exact ⟨_, rfl, H5.out.1.wide hs3 H5.out.2.size (Nat.le_refl _), B4.trans (H5.out.2.below hs3 (by omega))⟩
end Go.Proofs.Ythlkhmbndaecfaa
