/- Ratings and games drawn from a code. -/
import Derived.Test.YtihoflfokiijdaaCq
import Derived.Test.YtihoflfokiijdaaRg
import Derived.Test.YtihoflfokiijdaaCy
namespace Go.Proofs.Ytihoflfokiijdaa
open Go.ChangeShapes Go.WideShapes Go.ChangeAt Go.RowKit

theorem Cur.far {w w2 w5 : World} {p n lo : Nat} {v : Value} (h : Cur w p v n) (h2 : Cur w2 p v n) (hlo : w.heap.size ≤ lo) (hb : Below lo w2 w5) : Cur w5 p v n := by
  obtain ⟨i, hi, hci⟩ := h2.i
  obtain ⟨x, hx⟩ := h2.h
  have hp : p < lo := Nat.lt_of_lt_of_le h.lt hlo
  refine ⟨(hb.cell (p := ⟨p, 0, none⟩) hp).trans h2.b, ⟨i, hi, (hb.cell (p := ⟨p, 1, none⟩) hp).trans hci⟩, ⟨x, (hb.cell (p := ⟨p, 2, none⟩) hp).trans hx⟩, (hb.frozen (p := ⟨p, 1, none⟩) hp).trans h2.f1, (hb.frozen (p := ⟨p, 2, none⟩) hp).trans h2.f2, Nat.lt_of_lt_of_le h2.lt hb.size, ?_⟩
  obtain ⟨A, c, e, h3, h4, h5⟩ := h2.inb
  obtain ⟨A', c', e', _, _, h6⟩ := h.inb
  rw [e] at e'
  injection e' with e1 _ e3
  subst e1
  refine ⟨A, c, e, h3, h4, ?_⟩
  rcases h6 with rfl | ⟨b, off, rfl, h6⟩
  · exact .inl rfl
  · rcases h5 with rfl | ⟨b', off', e4, h5⟩
    · exact .inl rfl
    · injection e4 with e4
      injection e4 with e5 e6 _
      subst e5; subst e6
      refine .inr ⟨b, off, rfl, fun k hk => ?_⟩
      obtain ⟨x, h7, h8, h9⟩ := h5 k hk
      obtain ⟨_, _, _, h10⟩ := h6 k hk
      exact ⟨x, h7, h8, (hb.cell (p := ⟨b, off + k, none⟩) (Nat.lt_of_lt_of_le (block_lt_of_cell h10) hlo)).trans h9⟩
theorem Keep.far {l h lo : Nat} {w w2 w5 : World} (hk : Keep l h w w2) (hb : Below lo w2 w5) (hlo : w.heap.size ≤ lo) : Keep l h w w5 :=
  ⟨hb.os.trans hk.os, hb.tape.trans hk.tape, hb.output.trans hk.output, Nat.le_trans hk.size hb.size, fun k hk' hd => (hb.block k (by omega)).trans (hk.block k hk' hd)⟩
set_option maxHeartbeats 2000000 in
set_option maxRecDepth 100000 in
theorem l01Below_any (p : Nat) (v : Value) (n : Nat) (m : Int) (w : World) (hc : Cur w p v n) (hn : n ≤ 1048576) (h0 : 0 < m) (h1 : m ≤ 256) :
    Calls Try.prog 31 #[.pointer (some ⟨p, 0, none⟩), .int .i64 m] w fun e w' => ∃ x : Int, (0 ≤ x ∧ x < m) ∧ e = .returned (.int .i64 x) ∧ Cur w' p v n ∧ Keep p (p + 1) w w' := by
  have HC := Lib.hid hc
  clear hc
  go_enter Try.func31, Try.ntmps31
  go_wp2_with (go_at_call 19; refine (l01Byte_any p v n _ HC.out hn).mono ?_; rintro e w2 ⟨x, hx, rfl, hc2, hk2⟩; have H2 : Hid (Cur w2 p v n ∧ Keep p (p + 1) w w2) := ⟨hc2, hk2⟩; clear hc2 hk2)
  go_ret
  exact ⟨_, ⟨Int.emod_nonneg _ (by omega), Int.emod_lt_of_pos _ h0⟩, rfl, H2.out.1, H2.out.2⟩

/-- Ratings being drawn. -/
structure DrA (w : World) (lo : Nat) (wr : World) (p : Nat) (v : Value) (n : Nat) (vv : Value) (R : List Int) : Prop where
  fr : Fr wr lo wr.heap.size vv R
  cur : Cur wr p v n
  keep : Keep p (p + 1) w wr
  lo0 : w.heap.size ≤ lo
  lo1 : lo ≤ wr.heap.size
  near : nearR R 0
theorem DrA.draw {w wr w2 : World} {lo p n : Nat} {v vv : Value} {R : List Int} (h : DrA w lo wr p v n vv R) (hp : p < w.heap.size) (hc : Cur w2 p v n) (hk : Keep p (p + 1) wr w2) : DrA w lo w2 p v n vv R :=
  ⟨(h.fr.keep hk (.inr (by have := h.lo0; omega))).wide (Nat.le_refl _) hk.size (Nat.le_refl _), hc, h.keep.trans hk, h.lo0, Nat.le_trans h.lo1 hk.size, h.near⟩
theorem DrA.next {w wr w2 : World} {lo p n j : Nat} {v vv v' : Value} {R : List Int} {x : Int} (h : DrA w lo wr p v n vv R) (hc0 : Cur w p v n) (hl : R.length = j) (hx : 1400 ≤ x ∧ x ≤ 2192)
    (hown : w2.ownsRow lo 3 1 v' (j + 1) (ints (R ++ [x]))) (hb : ∀ B, B ≤ lo → B ≤ wr.heap.size → Below B wr w2) : DrA w lo w2 p v n v' (R ++ [x]) := by
  have B := hb lo (Nat.le_refl _) h.lo1
  refine ⟨Fr.of_own (by rw [List.length_append, hl]; exact hown), hc0.far h.cur h.lo0 B, h.keep.far B h.lo0, h.lo0, Nat.le_trans h.lo1 B.size, ?_⟩
  intro y hy
  rw [List.mem_append, List.mem_singleton] at hy
  rcases hy with hy | rfl
  · exact h.near y hy
  · omega
/-- Games being drawn behind the ratings. -/
structure DrB (w : World) (lo : Nat) (wr : World) (p : Nat) (v : Value) (n : Nat) (rv : Value) (R : List Int) (gv : Value) (GS : List (List Int)) : Prop where
  ow : OwS wr lo wr.heap.size gv GS
  fr : ∃ l0, w.heap.size ≤ l0 ∧ Fr wr l0 lo rv R
  cur : Cur wr p v n
  keep : Keep p (p + 1) w wr
  lo0 : w.heap.size ≤ lo
  lo1 : lo ≤ wr.heap.size
  games : ∀ g ∈ GS, gameOk R.length g = true
theorem DrB.draw {w wr w2 : World} {lo p n : Nat} {v rv gv : Value} {R : List Int} {GS : List (List Int)} (h : DrB w lo wr p v n rv R gv GS) (hp : p < w.heap.size) (hc : Cur w2 p v n) (hk : Keep p (p + 1) wr w2) : DrB w lo w2 p v n rv R gv GS := by
  obtain ⟨l0, h0, hf⟩ := h.fr
  exact ⟨(h.ow.keep hk (.inr (by have := h.lo0; omega))).top hk.size (Nat.le_refl _), ⟨l0, h0, hf.keep hk (.inr (by omega))⟩, hc, h.keep.trans hk, h.lo0, Nat.le_trans h.lo1 hk.size, h.games⟩
theorem rowLit (w : World) (a b c : Int) : Fr (w.alloc (.cells #[.int .i64 a, .int .i64 b, .int .i64 c] 3)) w.heap.size (w.alloc (.cells #[.int .i64 a, .int .i64 b, .int .i64 c] 3)).heap.size (.slice (some ⟨w.heap.size, 0, none⟩) 3 3) [a, b, c] :=
  Fr.of_own (xs := [a, b, c]) (World.ownsRow_lit (base := w.heap.size) (e := 3) (size := 1) w #[.int .i64 a, .int .i64 b, .int .i64 c] 3 (Nat.le_refl _) (by unfold maxLen; omega) rfl)
theorem game_mk {N : Nat} {a b c : Int} (h : 2 ≤ N) (ha : 0 ≤ a ∧ a < N) (hb : 0 ≤ b ∧ b < (N : Int) - 1) (hc : 0 ≤ c ∧ c < 3) : gameOk N [a, (a + 1 + b) % (N : Int), c] = true := by
  have h1 : 0 ≤ (a + 1 + b) % (N : Int) := Int.emod_nonneg _ (by omega)
  have h2 : (a + 1 + b) % (N : Int) < N := Int.emod_lt_of_pos _ (by omega)
  have h3 : a ≠ (a + 1 + b) % (N : Int) := by
    rcases Int.lt_or_le (a + 1 + b) N with h4 | h4
    · rw [Int.emod_eq_of_lt (by omega) h4]; omega
    · have e : (a + 1 + b) % (N : Int) = (a + 1 + b - N) % (N : Int) := by rw [Int.sub_emod_right]
      rw [e, Int.emod_eq_of_lt (by omega) (by omega)]; omega
  simp only [gameOk, Bool.and_eq_true, decide_eq_true_eq, bne_iff_ne, inB_t]
  exact ⟨ha.1, ha.2, h1, h2, h3, hc.1, by omega⟩
theorem game_at_len {R g : List Int} {N : Nat} (h : R.length = N) (hg : gameOk N g = true) : gameOk R.length g = true := by rw [h]; exact hg
theorem DrB.next {w wr W w2 : World} {lo p n : Nat} {v rv gv v' : Value} {R g : List Int} {GS : List (List Int)} (h : DrB w lo wr p v n rv R gv GS) (hc0 : Cur w p v n) (hb1 : Below wr.heap.size wr W) (hb : ∀ B, B ≤ lo → B ≤ W.heap.size → Below B W w2)
    (how : OwS w2 lo w2.heap.size v' (GS ++ [g])) (hg : gameOk R.length g = true) : DrB w lo w2 p v n rv R v' (GS ++ [g]) := by
  have B : Below lo wr w2 := (hb1.mono h.lo1).trans (hb lo (Nat.le_refl _) (Nat.le_trans h.lo1 hb1.size))
  obtain ⟨l0, h0, hf⟩ := h.fr
  refine ⟨how, ⟨l0, h0, hf.below B (Nat.le_refl _)⟩, hc0.far h.cur h.lo0 B, h.keep.far B h.lo0, h.lo0, Nat.le_trans h.lo1 B.size, ?_⟩
  intro y hy
  rw [List.mem_append, List.mem_singleton] at hy
  rcases hy with hy | rfl
  · exact h.games y hy
  · exact hg
set_option maxHeartbeats 4000000 in
set_option maxRecDepth 100000 in
theorem l26Draw_any (p : Nat) (v : Value) (n : Nat) (w : World) (hc : Cur w p v n) (hn : n ≤ 1048576) :
    Calls Try.prog 17 #[.pointer (some ⟨p, 0, none⟩)] w fun e w' => ∃ (vr vg : Value) (r : List Int) (gs : List (List Int)), e = .returned (.tuple #[vr, vg]) ∧ Drawn r gs ∧ InI w' vr r ∧ InS w' vg gs ∧ Keep p (p + 1) w w' := by
  have HC := Lib.hid hc
  have hp := hc.lt
  clear hc
  go_enter Try.func17, Try.ntmps17
  go_wp2_with (go_at_call 31; refine (l01Below_any p v n 4 _ HC.out hn (by omega) (by omega)).mono ?_; rintro e w1 ⟨x, hx, rfl, hc1, hk1⟩; have H1 : Hid (Cur w1 p v n ∧ Keep p (p + 1) w w1) := ⟨hc1, hk1⟩; clear hc1 hk1)
  obtain ⟨N, hN⟩ : ∃ N : Nat, 2 + x = (N : Int) := ⟨(2 + x).toNat, by omega⟩
  have hN2 : 2 ≤ N ∧ N ≤ 5 := by omega
  rw [hN]
  clear hN hx
  have B1 : Hid (Below w1.heap.size w1 (w1.alloc (.cells #[] 3))) := (Below.refl _ w1).alloc (Nat.le_refl _) _
  have HA : Hid (DrA w w1.heap.size (w1.alloc (.cells #[] 3)) p v n (.slice (some ⟨w1.heap.size, 0, none⟩) 0 0) []) :=
    ⟨Fr.of_own (xs := []) (World.ownsRow_lit (base := w1.heap.size) (e := 3) (size := 1) w1 #[] 0 (Nat.le_refl _) (by unfold maxLen; omega) rfl), HC.out.far H1.out.1 H1.out.2.size B1.out, H1.out.2.far B1.out H1.out.2.size, H1.out.2.size, by simp, by intro y hy; cases hy⟩
  clear B1
  go_loopw [5, 6] (fun a i wr => ∃ (j : Nat) (vv : Value) (R : List Int), j ≤ N ∧ i = .int .i64 j ∧ vv = a ∧ R.length = j ∧ Hid (DrA w w1.heap.size wr p v n vv R)) (fun _ i _ => N - (intOf i).toNat)
  case atStart => exact ⟨0, _, [], Nat.zero_le _, rfl, rfl, rfl, HA.out⟩
  case round =>
    obtain ⟨j, vv, R, hj, rfl, rfl, hl, HR⟩ := hrel
    clear HA
    by_cases hlt : j < N
    case pos =>
      have HL := Lib.hid hl
      clear hl
      go_wp2_with (first
        | (go_at_call 31; refine (l01Below_any p v n 100 _ HR.out.cur hn (by omega) (by omega)).mono ?_; rintro e w2 ⟨y, hy, rfl, hc2, hk2⟩; have H2 : Hid (DrA w w1.heap.size w2 p v n vv R) := HR.out.draw hp hc2 hk2; clear hc2 hk2)
        | (at_builtin; refine app1 rfl _ _ rfl w2 w1.heap.size vv j R rfl (by have h := H2.out.fr.1; rw [HL.out] at h; exact h) _ rfl (by omega) H2.out.lo1 ?_; intro v5 w5 hown hb5 _ _; have H5 : Hid (DrA w w1.heap.size w5 p v n v5 (R ++ [1400 + 8 * y])) := H2.out.next HC.out HL.out (by omega) hown hb5; clear hown hb5))
      go_roundw
      case rel => exact ⟨j + 1, _, _, by omega, by go_num, rfl, by rw [List.length_append, HL.out]; rfl, H5.out⟩
      case measure => simp [intOf]; omega
    obtain rfl : j = N := by omega
    have HL := Lib.hid hl
    clear hl
    obtain ⟨wz, hwz⟩ : ∃ W, W = wr := ⟨wr, rfl⟩
    have B2 : Hid (Below wr.heap.size wr (wr.alloc (.cells #[] 23))) := (Below.refl _ wr).alloc (Nat.le_refl _) _
    have HB : Hid (DrB w wr.heap.size (wr.alloc (.cells #[] 23)) p v n vv R (.slice (some ⟨wr.heap.size, 0, none⟩) 0 0) []) :=
      ⟨⟨[], rfl, World.ownsRow_lit (base := wr.heap.size) (e := 23) (size := 1) wr #[] 0 (Nat.le_refl _) (by unfold maxLen; omega) rfl, fun g hg => by simp only [Value.ownBlock, Option.some.injEq] at hg; subst hg; simp, by simp, Nat.le_refl _, by simp, by simp⟩,
       ⟨w1.heap.size, HR.out.lo0, HR.out.fr.below B2.out (Nat.le_refl _)⟩, HC.out.far HR.out.cur HR.out.keep.size B2.out, HR.out.keep.far B2.out HR.out.keep.size, HR.out.keep.size, by simp, by simp⟩
    have HN := Lib.hid HR.out.near
    go_wp2_with (go_at_call 31; refine (l01Below_any p v n 6 _ HB.out.cur hn (by omega) (by omega)).mono ?_; rintro e w2 ⟨y, hy, rfl, hc2, hk2⟩; have H2 : Hid (DrB w wr.heap.size w2 p v n vv R (.slice (some ⟨wr.heap.size, 0, none⟩) 0 0) []) := HB.out.draw hp hc2 hk2; clear hc2 hk2)
    obtain ⟨q, rfl⟩ := Int.eq_ofNat_of_zero_le hy.1
    have hq : q ≤ 5 := by omega
    clear hy HB B2 HR
    subst hwz
    go_loopw [7, 8] (fun a i wr => ∃ (k : Nat) (gv : Value) (GS : List (List Int)), i = .int .i64 k ∧ gv = a ∧ GS.length + k ≤ 5 ∧ Hid (DrB w wz.heap.size wr p v n vv R gv GS)) (fun _ i _ => (intOf i).toNat)
    case atStart => exact ⟨q, _, [], rfl, rfl, by simpa using hq, H2.out⟩
    case round =>
      obtain ⟨k, gv, GS, rfl, rfl, hk, HR⟩ := hrel
      clear H2
      by_cases hlt : 0 < k
      case neg =>
        obtain rfl : k = 0 := by omega
        have HF : Hid (Drawn R GS ∧ InI wr vv R ∧ InS wr gv GS ∧ Keep p (p + 1) w wr) := by
          obtain ⟨l0, _, hf⟩ := HR.out.fr
          exact ⟨⟨by rw [HL.out]; omega, by rw [HL.out]; omega, HN.out, by omega, HR.out.games⟩, hf.in_, HR.out.ow.in_, HR.out.keep⟩
        go_wp2
        go_ret2
        exact ⟨_, _, R, GS, rfl, HF.out⟩
      have hGS : GS.length ≤ 1048576 := by omega
      have tok1 : True := trivial
      have tok2 : True := trivial
      go_wp2_with (first
        | (go_at_call 31; clear tok1; refine (l01Below_any p v n (j : Int) _ HR.out.cur hn (by omega) (by omega)).mono ?_; rintro e w3 ⟨a, ha, rfl, hc3, hk3⟩; have H3 : Hid (DrB w wz.heap.size w3 p v n vv R gv GS) := HR.out.draw hp hc3 hk3; clear hc3 hk3)
        | (go_at_call 31; have h_ := H3.out; clear h_ tok2; refine (l01Below_any p v n ((j : Int) - 1) _ H3.out.cur hn (by omega) (by omega)).mono ?_; rintro e w4 ⟨b, hb, rfl, hc4, hk4⟩; have H4 : Hid (DrB w wz.heap.size w4 p v n vv R gv GS) := H3.out.draw hp hc4 hk4; clear hc4 hk4)
        | (go_at_call 31; have h_ := H4.out; clear h_; refine (l01Below_any p v n 3 _ H4.out.cur hn (by omega) (by omega)).mono ?_; rintro e w5 ⟨c, hc, rfl, hc5, hk5⟩; have H5 : Hid (DrB w wz.heap.size w5 p v n vv R gv GS) := H4.out.draw hp hc5 hk5; clear hc5 hk5; obtain ⟨vs, hown6, hpush⟩ := H5.out.ow.pushed ((Below.refl _ w5).alloc (Nat.le_refl _) _) (rowLit w5 a ((a + 1 + b) % (j : Int)) c); have HO := Lib.hid hown6; have HP := Lib.hid hpush; have HG : Hid (gameOk R.length [a, (a + 1 + b) % (j : Int), c] = true) := game_at_len HL.out (game_mk hN2.1 ha hb hc); clear hown6 hpush)
        | (at_builtin; refine appS rfl _ _ rfl (w5.alloc (.cells #[.int .i64 a, .int .i64 ((a + 1 + b) % (j : Int)), .int .i64 c] 3)) wz.heap.size gv GS.length vs rfl HO.out _ 3 3 (by rw [World.size_alloc]; rfl) hGS (Nat.le_trans H5.out.lo1 (by simp)) ?_; intro v7 w7 hown7 hb7 _ hg7; have H7 : Hid (DrB w wz.heap.size w7 p v n vv R v7 (GS ++ [[a, (a + 1 + b) % (j : Int), c]])) := H5.out.next HC.out ((Below.refl _ w5).alloc (Nat.le_refl _) _) hb7 (HP.out _ _ hown7 hg7) HG.out; clear hown7 hb7 hg7))
      go_roundw
      case rel => exact ⟨k - 1, _, _, by go_num, rfl, by rw [List.length_append, List.length_singleton]; omega, H7.out⟩
      case measure => simp [intOf]; omega

theorem makeRatings_any (v : Value) (n m : Nat) (w : World) (hv : InB w v n) (hn : n ≤ 1048576) (hm : m ≤ 1048576) :
    Calls Try.prog 4 #[v, .int .i64 (m : Int)] w fun e w' => ∃ (vr vg : Value) (r : List Int) (gs : List (List Int)), e = .returned (.tuple #[vr, vg]) ∧ Drawn r gs ∧ InI w' vr r ∧ InS w' vg gs ∧ Below w.heap.size w w' := by
  have HV := Lib.hid hv
  clear hv
  go_enter Try.func4, Try.ntmps4
  go_wp2_with (first
    | (go_at_call 18; refine (l32New_any v n m w HV.out hn hm).mono ?_; rintro e w1 ⟨rfl, hc, hb⟩; have HC : Hid (Cur w1 w.heap.size v n ∧ Below w.heap.size w w1) := ⟨hc, hb⟩; clear hc hb)
    | (go_at_call 17; refine (l26Draw_any w.heap.size v n _ HC.out.1 hn).mono ?_; rintro e w2 ⟨vr, vg, r, gs, rfl, hd, h1, h2, hk2⟩; have H2 : Hid (Drawn r gs ∧ InI w2 vr r ∧ InS w2 vg gs ∧ Below w.heap.size w w2) := ⟨hd, h1, h2, HC.out.2.trans (hk2.below (Nat.le_refl _) (Nat.le_of_lt HC.out.1.lt))⟩; clear hd h1 h2 hk2))
  go_ret2
  exact ⟨_, _, r, gs, rfl, H2.out⟩
end Go.Proofs.Ytihoflfokiijdaa
