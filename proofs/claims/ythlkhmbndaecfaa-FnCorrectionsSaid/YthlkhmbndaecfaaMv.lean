/- Moved clubs: contracts (print/moved.py). -/
import Derived.Test.YthlkhmbndaecfaaTi
import Derived.Test.YthlkhmbndaecfaaTl
import Derived.Test.YthlkhmbndaecfaaTa
namespace Go.Proofs.Ythlkhmbndaecfaa
open Go.ChangeShapes Go.WideShapes Go.ChangeAt Go.RowKit

/-- The set of clubs whose places differ: first k places. -/
def mvS (a b : List Int) : Nat → Nat
  | 0 => 0
  | k + 1 => if b.getD k 0 = a.getD k 0 then mvS a b k else mvS a b k + 2 ^ (a.getD k 0).toNat
def movedF (x y : LeagueV) : Int := if leagueB x && (leagueB y && x.clubs == y.clubs) then ((mvS (tableL x) (tableL y) x.clubs.toNat : Nat) : Int) else -1
theorem bits_or : ∀ s : Fin 256, ∀ c : Fin 8, s.val.testBit c.val = false → bits BinOp.or IntKind.i64 (s.val : Int) ((2 ^ c.val : Nat) : Int) = ((s.val + 2 ^ c.val : Nat) : Int) := by decide +kernel
theorem add_bit : ∀ s : Fin 256, ∀ c : Fin 8, s.val.testBit c.val = false → s.val + 2 ^ c.val < 256 ∧ ∀ d : Fin 8, c.val ≠ d.val → s.val.testBit d.val = false → (s.val + 2 ^ c.val).testBit d.val = false := by decide +kernel
theorem mv_inv {a b : List Int} {n : Nat} (hn : n ≤ 8) (ha : ∀ i, i < n → ∃ c : Nat, a.getD i 0 = c ∧ c < 8) (hd : ∀ i k, i < k → k < n → a.getD i 0 ≠ a.getD k 0) :
    ∀ k, k ≤ n → mvS a b k < 256 ∧ ∀ d : Nat, d < 8 → (∀ i, i < k → a.getD i 0 ≠ (d : Int)) → (mvS a b k).testBit d = false
  | 0, _ => ⟨by simp [mvS], fun d _ _ => by simp [mvS]⟩
  | k + 1, h => by
    obtain ⟨h1, h2⟩ := mv_inv hn ha hd k (by omega)
    obtain ⟨c, hc, hc8⟩ := ha k (by omega)
    have hb := h2 c hc8 (fun i hi => by rw [← hc]; exact hd i k hi (by omega))
    obtain ⟨h3, h4⟩ := add_bit ⟨mvS a b k, h1⟩ ⟨c, hc8⟩ hb
    unfold mvS
    split
    · exact ⟨h1, fun d hd8 hne => h2 d hd8 (fun i hi => hne i (by omega))⟩
    · rw [hc, Int.toNat_natCast]
      refine ⟨h3, fun d hd8 hne => h4 ⟨d, hd8⟩ (fun e => ?_) (h2 d hd8 (fun i hi => hne i (by omega)))⟩
      refine hne k (by omega) ?_
      rw [hc]
      have e : c = d := e
      rw [e]
theorem idxs_nodup (n : Nat) : (idxs n).Nodup := by
  unfold idxs List.Nodup
  rw [List.pairwise_map]
  exact List.Pairwise.imp (fun h e => h (Int.ofNat.inj e)) List.nodup_range
theorem tableF_step {n : Nat} {rs : List Res} (hn : n ≤ 8) (b : List Int) {j : Nat} (hj : j < n) : ∃ c : Nat, (tableF n rs)[j]? = some (c : Int) ∧ (tableF n rs).getD j 0 = c ∧ c < 8 ∧ c < n ∧ mvS (tableF n rs) b j < 256 ∧ mvS (tableF n rs) b j + 2 ^ c < 256 ∧
    bits BinOp.or IntKind.i64 ((mvS (tableF n rs) b j : Nat) : Int) ((2 ^ c : Nat) : Int) = ((mvS (tableF n rs) b j + 2 ^ c : Nat) : Int) := by
  have hL := tableF_length n rs
  have hg : ∀ i, i < n → ∃ c : Nat, (tableF n rs)[i]? = some (c : Int) ∧ (tableF n rs).getD i 0 = c ∧ c < n := fun i hi => by
    have h1 : (tableF n rs)[i]? = some (tableF n rs)[i] := List.getElem?_eq_getElem (by omega)
    have h2 := tableF_mem.1 (List.mem_of_getElem? h1)
    refine ⟨(tableF n rs)[i].toNat, ?_, ?_, by omega⟩
    · rw [h1]; congr 1; omega
    · rw [List.getD_eq_getElem?_getD, h1]; simp; omega
  have hnd : (tableF n rs).Nodup := (insF_perm _ _).nodup_iff.2 (idxs_nodup n)
  have hd : ∀ i k, i < k → k < n → (tableF n rs).getD i 0 ≠ (tableF n rs).getD k 0 := fun i k hik hk => by
    have h1 : (tableF n rs)[i]? = some (tableF n rs)[i] := List.getElem?_eq_getElem (by omega)
    have h2 : (tableF n rs)[k]? = some (tableF n rs)[k] := List.getElem?_eq_getElem (by omega)
    rw [List.getD_eq_getElem?_getD, List.getD_eq_getElem?_getD, h1, h2]
    exact (List.pairwise_iff_getElem.1 hnd) i k (by omega) (by omega) hik
  obtain ⟨c, e1, e2, e3⟩ := hg j hj
  obtain ⟨i1, i2⟩ := mv_inv (b := b) hn (fun i hi => by obtain ⟨c, _, h, h3⟩ := hg i hi; exact ⟨c, h, by omega⟩) hd j (by omega)
  have hb := i2 c (by omega) (fun i hi => by rw [← e2]; exact hd i j hi hj)
  exact ⟨c, e1, e2, by omega, e3, i1, (add_bit ⟨_, i1⟩ ⟨c, by omega⟩ hb).1, bits_or ⟨_, i1⟩ ⟨c, by omega⟩ hb⟩
theorem mvS_go {a b : List Int} {k : Nat} {c : Nat} (ha : a.getD k 0 = c) (h : b.getD k 0 ≠ a.getD k 0) : mvS a b (k + 1) = mvS a b k + 2 ^ c := by
  rw [mvS, if_neg h, ha, Int.toNat_natCast]
theorem mvS_stay {a b : List Int} {k : Nat} (h : b.getD k 0 = a.getD k 0) : mvS a b (k + 1) = mvS a b k := by
  rw [mvS, if_pos h]

set_option maxHeartbeats 8000000 in
set_option maxRecDepth 100000 in
theorem implMovedClubs_std (v : Value) (x : LeagueV) (u : Value) (y : LeagueV) (w : World) (hx : InL w v x) (_hn : x.results.length ≤ 1048576) (hy : InL w u y) (_hm : y.results.length ≤ 1048576) :
    Calls Try.prog 10 #[v, u] w fun e w' => e = .returned (.int .i64 (movedF x y)) ∧ Below w.heap.size w w' := by
  have hx0 := hx
  have hy0 := hy
  obtain ⟨A, c, rfl, -, -, -, -⟩ := hx
  obtain ⟨B, d, rfl, -, -, -, -⟩ := hy
  have HX := Lib.hid hx0
  have HY := Lib.hid hy0
  clear hx0 hy0
  have W1 : Hid (Below w.heap.size w ((w.alloc (.cells #[.int .i64 x.clubs, .slice A x.results.length c] 25)).alloc (.cells #[.int .i64 y.clubs, .slice B y.results.length d] 25))) := ((Below.refl _ w).alloc (Nat.le_refl _) _).alloc (by simp) _
  have WC : Hid (∀ W, Below ((w.alloc (.cells #[.int .i64 x.clubs, .slice A x.results.length c] 25)).alloc (.cells #[.int .i64 y.clubs, .slice B y.results.length d] 25)).heap.size ((w.alloc (.cells #[.int .i64 x.clubs, .slice A x.results.length c] 25)).alloc (.cells #[.int .i64 y.clubs, .slice B y.results.length d] 25)) W → W.cell? ⟨w.heap.size, 0, none⟩ = some (.int .i64 x.clubs) ∧ W.cell? ⟨w.heap.size, 1, none⟩ = some (.slice A x.results.length c) ∧ W.cell? ⟨w.heap.size + 1, 0, none⟩ = some (.int .i64 y.clubs) ∧ W.cell? ⟨w.heap.size + 1, 1, none⟩ = some (.slice B y.results.length d)) := fun W h =>
    ⟨(h.cell (p := ⟨w.heap.size, 0, none⟩) (by simp; omega)).trans (by simp [go_sem]), (h.cell (p := ⟨w.heap.size, 1, none⟩) (by simp; omega)).trans (by simp [go_sem]), (h.cell (p := ⟨w.heap.size + 1, 0, none⟩) (by simp)).trans (by simp [go_sem]), (h.cell (p := ⟨w.heap.size + 1, 1, none⟩) (by simp)).trans (by simp [go_sem])⟩
  cases h1 : leagueB x
  case false =>
    have HE : Hid (movedF x y = -1) := by show _ = _; simp [movedF, h1]
    go_enter Try.func10, Try.ntmps10
    go_wp2_with fail
    generalize ((w.alloc (.cells #[.int .i64 x.clubs, .slice A x.results.length c] 25)).alloc (.cells #[.int .i64 y.clubs, .slice B y.results.length d] 25)) = w0 at *
    refine (implLeagueOk_any _ x _ (HX.out.below W1.out)).mono ?_
    rintro e w1 ⟨rfl, hb1⟩
    rw [h1]
    have B1 := Lib.hid hb1
    clear hb1
    obtain ⟨q0, q1, q2, q3⟩ := WC.out w1 B1.out
    go_wp2_with fail
    go_ret
    exact ⟨ret_int HE.out.symm, W1.out.trans (B1.out.mono W1.out.size)⟩
  cases h2 : leagueB y
  case false =>
    have HE : Hid (movedF x y = -1) := by show _ = _; simp [movedF, h2]
    go_enter Try.func10, Try.ntmps10
    go_wp2_with fail
    generalize ((w.alloc (.cells #[.int .i64 x.clubs, .slice A x.results.length c] 25)).alloc (.cells #[.int .i64 y.clubs, .slice B y.results.length d] 25)) = w0 at *
    refine (implLeagueOk_any _ x _ (HX.out.below W1.out)).mono ?_
    rintro e w1 ⟨rfl, hb1⟩
    rw [h1]
    have B1 := Lib.hid hb1
    clear hb1
    obtain ⟨q0, q1, q2, q3⟩ := WC.out w1 B1.out
    go_wp2_with fail
    clear q0 q1 q2 q3
    refine (implLeagueOk_any _ y _ (HY.out.below (W1.out.trans (B1.out.mono W1.out.size)))).mono ?_
    rintro e w2 ⟨rfl, hb2⟩
    rw [h2]
    have B2 : Hid (Below w0.heap.size w0 w2) := B1.out.trans (hb2.mono B1.out.size)
    clear hb2
    obtain ⟨q0, q1, q2, q3⟩ := WC.out w2 B2.out
    go_wp2_with fail
    go_ret
    exact ⟨ret_int HE.out.symm, W1.out.trans (B2.out.mono W1.out.size)⟩
  cases h3 : (x.clubs == y.clubs)
  case false =>
    have HE : Hid (movedF x y = -1) := by show _ = _; simp only [movedF, h3, Bool.and_false]; rfl
    have t3 : (x.clubs != y.clubs) = true := by simp only [bne, h3]; rfl
    clear h3
    go_enter Try.func10, Try.ntmps10
    go_wp2_with fail
    generalize ((w.alloc (.cells #[.int .i64 x.clubs, .slice A x.results.length c] 25)).alloc (.cells #[.int .i64 y.clubs, .slice B y.results.length d] 25)) = w0 at *
    refine (implLeagueOk_any _ x _ (HX.out.below W1.out)).mono ?_
    rintro e w1 ⟨rfl, hb1⟩
    rw [h1]
    have B1 := Lib.hid hb1
    clear hb1
    obtain ⟨q0, q1, q2, q3⟩ := WC.out w1 B1.out
    go_wp2_with fail
    clear q0 q1 q2 q3
    refine (implLeagueOk_any _ y _ (HY.out.below (W1.out.trans (B1.out.mono W1.out.size)))).mono ?_
    rintro e w2 ⟨rfl, hb2⟩
    rw [h2]
    have B2 : Hid (Below w0.heap.size w0 w2) := B1.out.trans (hb2.mono B1.out.size)
    clear hb2
    obtain ⟨q0, q1, q2, q3⟩ := WC.out w2 B2.out
    go_wp2_with fail
    go_ret
    exact ⟨ret_int HE.out.symm, W1.out.trans (B2.out.mono W1.out.size)⟩
  have hcc : x.clubs = y.clubs := beq_iff_eq.1 h3
  have t3 : (x.clubs != y.clubs) = false := by simp only [bne, h3]; rfl
  obtain ⟨l1, l2, _, _⟩ := leagueB_t h1
  obtain ⟨n, hcl⟩ := Int.eq_ofNat_of_zero_le (show 0 ≤ x.clubs by omega)
  have HE : Hid (movedF x y = ((mvS (tableF n x.results) (tableF n y.results) n : Nat) : Int)) := by
    show _ = _
    rw [movedF, h1, h2, h3, show (true && (true && true)) = true from rfl, if_pos rfl, tableL, h1, if_pos rfl, tableL, h2, if_pos rfl, ← hcc, hcl, Int.toNat_natCast]
  have HT : Hid (tableL x = tableF n x.results ∧ tableL y = tableF n y.results) := ⟨by rw [tableL, h1, if_pos rfl, hcl, Int.toNat_natCast], by rw [tableL, h2, if_pos rfl, ← hcc, hcl, Int.toNat_natCast]⟩
  have hn8 : n ≤ 8 := by omega
  have hn2 : 2 ≤ n := by omega
  have HL1 := Lib.hid (And.intro (tableF_length n x.results) (tableF_length n y.results))
  clear h3 hcc hcl
  go_enter Try.func10, Try.ntmps10
  go_wp2_with fail
  generalize ((w.alloc (.cells #[.int .i64 x.clubs, .slice A x.results.length c] 25)).alloc (.cells #[.int .i64 y.clubs, .slice B y.results.length d] 25)) = w0 at *
  refine (implLeagueOk_any _ x _ (HX.out.below W1.out)).mono ?_
  rintro e w1 ⟨rfl, hb1⟩
  rw [h1]
  have B1 := Lib.hid hb1
  clear hb1
  obtain ⟨q0, q1, q2, q3⟩ := WC.out w1 B1.out
  go_wp2_with fail
  clear q0 q1 q2 q3
  refine (implLeagueOk_any _ y _ (HY.out.below (W1.out.trans (B1.out.mono W1.out.size)))).mono ?_
  rintro e w2 ⟨rfl, hb2⟩
  rw [h2]
  have B2 : Hid (Below w0.heap.size w0 w2) := B1.out.trans (hb2.mono B1.out.size)
  clear hb2
  obtain ⟨q0, q1, q2, q3⟩ := WC.out w2 B2.out
  go_wp2_with fail
  refine (implTableOf_any _ y w2 (HY.out.below (W1.out.trans (B2.out.mono W1.out.size)))).mono ?_
  rintro e w3 ⟨vy, rfl, hf, hb⟩
  rw [HT.out.2] at hf
  obtain ⟨gy, cy, rfl, -, -⟩ := hf.someA (by rw [HL1.out.2]; omega)
  rw [HL1.out.2]
  rw [HL1.out.2] at hf
  have Sy := Lib.hid hf.sl
  have B3 : Hid (Below w0.heap.size w0 w3) := B2.out.trans (hb.mono B2.out.size)
  clear hf hb q0 q1 q2 q3
  obtain ⟨q0, q1, q2, q3⟩ := WC.out w3 B3.out
  go_wp2_with fail
  refine (implTableOf_any _ x w3 (HX.out.below (W1.out.trans (B3.out.mono W1.out.size)))).mono ?_
  rintro e w4 ⟨vx, rfl, hf, hb⟩
  rw [HT.out.1] at hf
  obtain ⟨gx, cx, rfl, -, -⟩ := hf.someA (by rw [HL1.out.1]; omega)
  rw [HL1.out.1]
  rw [HL1.out.1] at hf
  have Sx := Lib.hid hf.sl
  replace Sy := Lib.hid (SlI.below Sy.out hb)
  have B4 : Hid (Below w0.heap.size w0 w4) := B3.out.trans (hb.mono B3.out.size)
  clear hf hb q0 q1 q2 q3
  go_wp2_with fail
  go_loop [5, 29] (fun s i => ∃ j : Nat, j ≤ n ∧ i = .int .i64 j ∧ s = .int .i64 ((mvS (tableF n x.results) (tableF n y.results) j : Nat) : Int)) (fun _ i => n - (intOf i).toNat)
  case atStart => exact ⟨0, Nat.zero_le _, rfl, rfl⟩
  case round =>
    obtain ⟨j, hj, rfl, rfl⟩ := hrel
    by_cases hlt : j < n
    case neg =>
      obtain rfl : j = n := by omega
      go_wp2
      go_ret
      exact ⟨ret_int HE.out.symm, W1.out.trans (B4.out.mono W1.out.size)⟩
    obtain ⟨c1, e1, e2, e3, e4, m1, m2, m3⟩ := tableF_step (rs := x.results) hn8 (tableF n y.results) hlt
    obtain ⟨b1, o1, x1, p1, y1, ca, _⟩ := Sx.out.at_ (k := j) (by rw [HL1.out.1]; exact hlt)
    obtain ⟨b2, o2, x2, p2, y2, cb, _⟩ := Sy.out.at_ (k := j) (by rw [HL1.out.2]; exact hlt)
    injection p1 with p1; injection p1 with r1 r2; subst r1; subst r2
    injection p2 with p2; injection p2 with r1 r2; subst r1; subst r2
    rw [e1] at y1; injection y1 with y1; subst y1
    have e5 : (tableF n y.results).getD j 0 = x2 := by rw [List.getD_eq_getElem?_getD, y2]; rfl
    rw [Nat.zero_add] at ca cb
    have M3 := Lib.hid m3
    have hG : Hid (x2 ≠ (c1 : Int) → mvS (tableF n x.results) (tableF n y.results) (j + 1) = mvS (tableF n x.results) (tableF n y.results) j + 2 ^ c1) := fun h => mvS_go e2 (by rw [e5, e2]; exact h)
    have hS : Hid (x2 = (c1 : Int) → mvS (tableF n x.results) (tableF n y.results) (j + 1) = mvS (tableF n x.results) (tableF n y.results) j) := fun h => mvS_stay (by rw [e5, e2]; exact h)
    clear e1 e2 e5 y2 m3
    generalize mvS (tableF n x.results) (tableF n y.results) j = s at *
    generalize hs' : mvS (tableF n x.results) (tableF n y.results) (j + 1) = s' at *
    have HSS := Lib.hid hs'
    clear hs'
    by_cases hd : x2 = (c1 : Int)
    · have t1 : (x2 != (c1 : Int)) = false := by simp [hd]
      have E := hS.out hd
      subst E
      clear hd
      go_wp2
      go_round
      all_goals first | exact ⟨j + 1, by omega, by go_num, by rw [HSS.out]⟩ | (simp [intOf]; try omega)
    · have t1 : (x2 != (c1 : Int)) = true := by simp [hd]
      have E := hG.out hd
      have EH := Lib.hid E
      clear hd E
      have hc8 : c1 = 0 ∨ c1 = 1 ∨ c1 = 2 ∨ c1 = 3 ∨ c1 = 4 ∨ c1 = 5 ∨ c1 = 6 ∨ c1 = 7 := by omega
      rcases hc8 with rfl | rfl | rfl | rfl | rfl | rfl | rfl | rfl
      all_goals
        go_wp2
        go_round
        all_goals first | exact ⟨j + 1, by omega, by go_num, by rw [HSS.out, EH.out]; exact congrArg _ M3.out⟩ | exact ⟨j + 1, by omega, by go_num, by rw [HSS.out, EH.out]; rfl⟩ | (simp [intOf]; try omega)
end Go.Proofs.Ythlkhmbndaecfaa
