/- Races drawn from a code. -/
import Derived.Test.YtofpaekokmkhgaaGreatDoorMac
import Derived.Test.YtofpaekokmkhgaaGreatDoorMaf
import Derived.Test.YtofpaekokmkhgaaGreatDoorMag
import Derived.Test.YtofpaekokmkhgaaGreatDoorSl
namespace Go.Proofs.YtofpaekokmkhgaaGreatDoor
open Go.ChangeShapes Go.WideShapes Go.ChangeAt Go.RowKit

set_option maxHeartbeats 2000000 in
set_option maxRecDepth 100000 in
theorem l01Once_any (p : Nat) (v : Value) (n : Nat) (m : Int) (w : World) (hc : Cur w p v n) (hn : n ≤ 1048576) (h0 : 0 < m) (h1 : m ≤ 256) :
    Calls Tryz.prog 43 #[.pointer (some ⟨p, 0, none⟩), .int .i64 m] w fun e w' => ∃ b : Bool, e = .returned (.bool b) ∧ Cur w' p v n ∧ Keep p (p + 1) w w' := by
  have HC := Lib.hid hc
  clear hc
  go_enter Tryz.func43, Tryz.ntmps43
  go_wp2_with (go_at_call 47; refine (l01Below_any p v n m _ HC.out hn h0 h1).mono ?_; rintro e w2 ⟨x, hx, rfl, hc2, hk2⟩; have H2 : Hid (Cur w2 p v n ∧ Keep p (p + 1) w w2) := ⟨hc2, hk2⟩; clear hc2 hk2)
  go_ret
  exact ⟨_, rfl, H2.out.1, H2.out.2⟩

/-- A row of integers being drawn. -/
structure DrR (w : World) (lo : Nat) (wr : World) (p : Nat) (v : Value) (n : Nat) (vv : Value) (R : List Int) : Prop where
  fr : Fr wr lo wr.heap.size vv R
  cur : Cur wr p v n
  keep : Keep p (p + 1) w wr
  lo0 : w.heap.size ≤ lo
  lo1 : lo ≤ wr.heap.size
theorem DrR.draw {w wr w2 : World} {lo p n : Nat} {v vv : Value} {R : List Int} (h : DrR w lo wr p v n vv R) (hp : p < w.heap.size) (hc : Cur w2 p v n) (hk : Keep p (p + 1) wr w2) : DrR w lo w2 p v n vv R :=
  ⟨(h.fr.keep hk (.inr (by have := h.lo0; omega))).wide (Nat.le_refl _) hk.size (Nat.le_refl _), hc, h.keep.trans hk, h.lo0, Nat.le_trans h.lo1 hk.size⟩
theorem DrR.next {w wr w2 : World} {lo p n j : Nat} {v vv v' : Value} {R : List Int} {x : Int} (h : DrR w lo wr p v n vv R) (hc0 : Cur w p v n) (hl : R.length = j)
    (hown : w2.ownsRow lo 3 1 v' (j + 1) (ints (R ++ [x]))) (hb : ∀ B, B ≤ lo → B ≤ wr.heap.size → Below B wr w2) : DrR w lo w2 p v n v' (R ++ [x]) := by
  have B := hb lo (Nat.le_refl _) h.lo1
  exact ⟨Fr.of_own (by rw [List.length_append, hl]; exact hown), hc0.far h.cur h.lo0 B, h.keep.far B h.lo0, h.lo0, Nat.le_trans h.lo1 B.size⟩
/-- Rows being drawn behind a row. -/
structure DrS (w : World) (lo : Nat) (wr : World) (p : Nat) (v : Value) (n : Nat) (rv : Value) (R : List Int) (gv : Value) (GS : List (List Int)) : Prop where
  ow : OwS wr lo wr.heap.size gv GS
  fr : ∃ l0, w.heap.size ≤ l0 ∧ Fr wr l0 lo rv R
  cur : Cur wr p v n
  keep : Keep p (p + 1) w wr
  lo0 : w.heap.size ≤ lo
  lo1 : lo ≤ wr.heap.size
theorem DrS.draw {w wr w2 : World} {lo p n : Nat} {v rv gv : Value} {R : List Int} {GS : List (List Int)} (h : DrS w lo wr p v n rv R gv GS) (hp : p < w.heap.size) (hc : Cur w2 p v n) (hk : Keep p (p + 1) wr w2) : DrS w lo w2 p v n rv R gv GS := by
  obtain ⟨l0, h0, hf⟩ := h.fr
  exact ⟨(h.ow.keep hk (.inr (by have := h.lo0; omega))).top hk.size (Nat.le_refl _), ⟨l0, h0, hf.keep hk (.inr (by omega))⟩, hc, h.keep.trans hk, h.lo0, Nat.le_trans h.lo1 hk.size⟩
theorem rowLit3 (w : World) (a b c : Int) : Fr (w.alloc (.cells #[.int .i64 a, .int .i64 b, .int .i64 c] 3)) w.heap.size (w.alloc (.cells #[.int .i64 a, .int .i64 b, .int .i64 c] 3)).heap.size (.slice (some ⟨w.heap.size, 0, none⟩) 3 3) [a, b, c] :=
  Fr.of_own (xs := [a, b, c]) (World.ownsRow_lit (base := w.heap.size) (e := 3) (size := 1) w #[.int .i64 a, .int .i64 b, .int .i64 c] 3 (Nat.le_refl _) (by unfold maxLen; omega) rfl)
theorem DrS.next {w wr W w2 : World} {lo p n : Nat} {v rv gv v' : Value} {R g : List Int} {GS : List (List Int)} (h : DrS w lo wr p v n rv R gv GS) (hc0 : Cur w p v n) (hb1 : Below wr.heap.size wr W) (hb : ∀ B, B ≤ lo → B ≤ W.heap.size → Below B W w2)
    (how : OwS w2 lo w2.heap.size v' (GS ++ [g])) : DrS w lo w2 p v n rv R v' (GS ++ [g]) := by
  have B : Below lo wr w2 := (hb1.mono h.lo1).trans (hb lo (Nat.le_refl _) (Nat.le_trans h.lo1 hb1.size))
  obtain ⟨l0, h0, hf⟩ := h.fr
  exact ⟨how, ⟨l0, h0, hf.below B (Nat.le_refl _)⟩, hc0.far h.cur h.lo0 B, h.keep.far B h.lo0, h.lo0, Nat.le_trans h.lo1 B.size⟩

/-- How many pairs lie ahead of the player a. -/
def pA (n : Nat) : Nat → Nat
  | 0 => 0
  | a + 1 => pA n a + (n - 1 - a)
/-- Games drawn: of pairs ahead of (a, b), in their order. -/
structure RcA (n a b : Nat) (gs : List (List Int)) : Prop where
  len : gs.length + (a + 1) ≤ pA n a + b
  row : ∀ g ∈ gs, ∃ i j k : Nat, g = [(i : Int), (j : Int), (k : Int)] ∧ i < j ∧ j < n ∧ 1 ≤ k ∧ k ≤ 3 ∧ (i < a ∨ (i = a ∧ j < b))
  ok : (List.range gs.length).all (rowOk n gs) = true
theorem RcA.start (n : Nat) : RcA n 0 1 [] := ⟨by simp [pA], by simp, by simp⟩
theorem RcA.skip {n a b : Nat} {gs : List (List Int)} (h : RcA n a b gs) : RcA n a (b + 1) gs :=
  ⟨by have := h.len; omega, fun g hg => by obtain ⟨i, j, k, e, h1, h2, h3, h4, h5⟩ := h.row g hg; exact ⟨i, j, k, e, h1, h2, h3, h4, by omega⟩, h.ok⟩
theorem RcA.nextA {n a : Nat} {gs : List (List Int)} (h : RcA n a n gs) (ha : a < n) : RcA n (a + 1) (a + 2) gs :=
  ⟨by have := h.len; rw [pA]; omega, fun g hg => by obtain ⟨i, j, k, e, h1, h2, h3, h4, h5⟩ := h.row g hg; exact ⟨i, j, k, e, h1, h2, h3, h4, by omega⟩, h.ok⟩
theorem RcA.push {n a b : Nat} {c : Int} {gs : List (List Int)} (h : RcA n a b gs) (hab : a < b) (hb : b < n) (hk : 1 ≤ c ∧ c ≤ 3) : RcA n a (b + 1) (gs ++ [[(a : Int), (b : Int), c]]) := by
  obtain ⟨k, rfl⟩ := Int.eq_ofNat_of_zero_le (show 0 ≤ c by omega)
  refine ⟨by rw [List.length_append, List.length_singleton]; have := h.len; omega, fun g hg => ?_, ?_⟩
  · rcases List.mem_append.1 hg with hg | hg
    · obtain ⟨i, j, k, e, h1, h2, h3, h4, h5⟩ := h.row g hg
      exact ⟨i, j, k, e, h1, h2, h3, h4, by omega⟩
    · rw [List.mem_singleton] at hg
      exact ⟨a, b, k, hg, hab, hb, by omega, by omega, by omega⟩
  · rw [List.all_eq_true]
    intro i hi
    rw [List.mem_range, List.length_append, List.length_singleton] at hi
    by_cases hlt : i < gs.length
    · have h1 := List.all_eq_true.1 h.ok i (List.mem_range.2 hlt)
      rw [rowOk] at h1 ⊢
      rw [List.getD_eq_getElem?_getD, List.getElem?_append_left hlt, ← List.getD_eq_getElem?_getD, List.take_append_of_le_length (Nat.le_of_lt hlt)]
      exact h1
    · obtain rfl : i = gs.length := by omega
      refine rowOk_go (g := [(a : Int), (b : Int), (k : Int)]) (by rw [List.getElem?_append_right (Nat.le_refl _), Nat.sub_self]; rfl) (pairB_t.2 ⟨by omega, by omega, by omega, by omega, by omega⟩) (fun j x hj hx => ?_)
      rw [List.getElem?_append_left hj] at hx
      obtain ⟨i', j', k', rfl, h1, h2, h3, h4, h5⟩ := h.row x (List.mem_of_getElem? hx)
      show ((i' : Int) == a && (j' : Int) == b) = false
      rw [Bool.and_eq_false_iff, beq_eq_false_iff_ne, beq_eq_false_iff_ne]
      omega
theorem pA_le : ∀ n : Fin 6, pA n.val n.val ≤ 10 := by decide
theorem RcA.done {n : Nat} {ws : List Int} {gs : List (List Int)} (h : RcA n n (n + 1) gs) (hl : ws.length = n) (h2 : 2 ≤ n) (h5 : n ≤ 5) (hw : ∀ x ∈ ws, 10 ≤ x ∧ x ≤ 17) : raceB ws gs = true := by
  have h1 := h.len
  have h3 := pA_le ⟨n, by omega⟩
  simp only at h3
  unfold raceB
  rw [hl, h.ok, Bool.and_true]
  simp only [Bool.and_eq_true, decide_eq_true_eq, List.all_eq_true, inB_t]
  exact ⟨⟨by omega, by omega⟩, fun x hx => by have := hw x hx; omega, by omega⟩

set_option maxHeartbeats 4000000 in
set_option maxRecDepth 100000 in
theorem l14Draw_any (p : Nat) (v : Value) (n : Nat) (w : World) (hc : Cur w p v n) (hn : n ≤ 1048576) :
    Calls Tryz.prog 25 #[.pointer (some ⟨p, 0, none⟩)] w fun e w' => ∃ (vr vg : Value) (r : List Int) (gs : List (List Int)), e = .returned (.tuple #[vr, vg]) ∧ (raceB r gs = true ∧ r.length ≤ 5) ∧ InI w' vr r ∧ InS w' vg gs ∧ Keep p (p + 1) w w' := by
  have HC := Lib.hid hc
  have hp := hc.lt
  clear hc
  go_enter Tryz.func25, Tryz.ntmps25
  go_wp2_with (go_at_call 47; refine (l01Below_any p v n 4 _ HC.out hn (by omega) (by omega)).mono ?_; rintro e w1 ⟨x, hx, rfl, hc1, hk1⟩; have H1 : Hid (Cur w1 p v n ∧ Keep p (p + 1) w w1) := ⟨hc1, hk1⟩; clear hc1 hk1)
  obtain ⟨N, hN⟩ : ∃ N : Nat, 2 + x = (N : Int) := ⟨(2 + x).toNat, by omega⟩
  have hN2 : 2 ≤ N ∧ N ≤ 5 := by omega
  rw [hN]
  clear hN hx
  have B1 : Hid (Below w1.heap.size w1 (w1.alloc (.cells #[] 3))) := (Below.refl _ w1).alloc (Nat.le_refl _) _
  have HA : Hid (DrR w w1.heap.size (w1.alloc (.cells #[] 3)) p v n (.slice (some ⟨w1.heap.size, 0, none⟩) 0 0) []) :=
    ⟨Fr.of_own (xs := []) (World.ownsRow_lit (base := w1.heap.size) (e := 3) (size := 1) w1 #[] 0 (Nat.le_refl _) (by unfold maxLen; omega) rfl), HC.out.far H1.out.1 H1.out.2.size B1.out, H1.out.2.far B1.out H1.out.2.size, H1.out.2.size, by simp⟩
  clear B1
  go_loopw [5, 6] (fun a i wr => ∃ (j : Nat) (vv : Value) (R : List Int), j ≤ N ∧ i = .int .i64 j ∧ vv = a ∧ R.length = j ∧ Hid (DrR w w1.heap.size wr p v n vv R ∧ ∀ x ∈ R, 10 ≤ x ∧ x ≤ 17)) (fun _ i _ => N - (intOf i).toNat)
  case atStart => exact ⟨0, _, [], Nat.zero_le _, rfl, rfl, rfl, HA.out, by simp⟩
  case round =>
    obtain ⟨j, vv, R, hj, rfl, rfl, hl, HR⟩ := hrel
    clear HA
    by_cases hlt : j < N
    case pos =>
      have HL := Lib.hid hl
      clear hl
      go_wp2_with (first
        | (go_at_call 47; refine (l01Below_any p v n 8 _ HR.out.1.cur hn (by omega) (by omega)).mono ?_; rintro e w2 ⟨y, hy, rfl, hc2, hk2⟩; have H2 : Hid (DrR w w1.heap.size w2 p v n vv R) := HR.out.1.draw hp hc2 hk2; clear hc2 hk2)
        | (at_builtin; refine app1 rfl _ _ rfl w2 w1.heap.size vv j R rfl (by have h := H2.out.fr.1; rw [HL.out] at h; exact h) _ rfl (by omega) H2.out.lo1 ?_; intro v5 w5 hown hb5 _ _; have H5 : Hid (DrR w w1.heap.size w5 p v n v5 (R ++ [10 + y])) := H2.out.next HC.out HL.out hown hb5; clear hown hb5))
      have HV : Hid (∀ x ∈ R ++ [10 + y], 10 ≤ x ∧ x ≤ 17) := by
        intro z hz
        rcases List.mem_append.1 hz with hz | hz
        · exact HR.out.2 z hz
        · rw [List.mem_singleton] at hz; omega
      go_roundw
      case rel => exact ⟨j + 1, _, _, by omega, by go_num, rfl, by rw [List.length_append, HL.out]; rfl, H5.out, HV.out⟩
      case measure => simp [intOf]; omega
    obtain rfl : j = N := by omega
    have HL := Lib.hid hl
    clear hl
    obtain ⟨wz, hwz⟩ : ∃ W, W = wr := ⟨wr, rfl⟩
    have B2 : Hid (Below wr.heap.size wr (wr.alloc (.cells #[] 23))) := (Below.refl _ wr).alloc (Nat.le_refl _) _
    have HB : Hid (DrS w wr.heap.size (wr.alloc (.cells #[] 23)) p v n vv R (.slice (some ⟨wr.heap.size, 0, none⟩) 0 0) []) :=
      ⟨⟨[], rfl, World.ownsRow_lit (base := wr.heap.size) (e := 23) (size := 1) wr #[] 0 (Nat.le_refl _) (by unfold maxLen; omega) rfl, fun g hg => by simp only [Value.ownBlock, Option.some.injEq] at hg; subst hg; simp, by simp, Nat.le_refl _, by simp, by simp⟩,
       ⟨w1.heap.size, HR.out.1.lo0, HR.out.1.fr.below B2.out (Nat.le_refl _)⟩, HC.out.far HR.out.1.cur HR.out.1.keep.size B2.out, HR.out.1.keep.far B2.out HR.out.1.keep.size, HR.out.1.keep.size, by simp⟩
    have HN := Lib.hid HR.out.2
    have hNw : (j : Int) ≤ 5 := by omega
    clear B2 HR
    subst hwz
    go_wp2
    go_loopw [7, 8] (fun a i wr => ∃ (k : Nat) (gv : Value) (GS : List (List Int)), k ≤ j ∧ i = .int .i64 k ∧ gv = a ∧ Hid (DrS w wz.heap.size wr p v n vv R gv GS ∧ RcA j k (k + 1) GS)) (fun _ i _ => j - (intOf i).toNat)
    case atStart => exact ⟨0, _, [], Nat.zero_le _, rfl, rfl, HB.out, RcA.start j⟩
    case round =>
      obtain ⟨k, gv, GS, hk, rfl, rfl, HR⟩ := hrel
      clear HB
      by_cases hlt : k < j
      case neg =>
        obtain rfl : k = j := by omega
        have HF : Hid ((raceB R GS = true ∧ R.length ≤ 5) ∧ InI wr vv R ∧ InS wr gv GS ∧ Keep p (p + 1) w wr) := by
          obtain ⟨l0, _, hf⟩ := HR.out.1.fr
          exact ⟨⟨HR.out.2.done HL.out hN2.1 hN2.2 HN.out, by rw [HL.out]; exact hN2.2⟩, hf.in_, HR.out.1.ow.in_, HR.out.1.keep⟩
        go_wp2
        go_ret2
        exact ⟨_, _, R, GS, rfl, HF.out⟩
      go_wp2
      go_loopw [7, 9] (fun a i wr => ∃ (b : Nat) (gv : Value) (GS : List (List Int)), k + 1 ≤ b ∧ b ≤ j ∧ i = .int .i64 b ∧ gv = a ∧ Hid (DrS w wz.heap.size wr p v n vv R gv GS ∧ RcA j k b GS)) (fun _ i _ => j - (intOf i).toNat)
      case atStart => exact ⟨k + 1, _, GS, Nat.le_refl _, by omega, by go_num, rfl, HR.out⟩
      case round =>
        obtain ⟨b, hv, HS, hkb, hbj, rfl, rfl, HI⟩ := hrel
        clear HR
        by_cases hlt2 : b < j
        case neg =>
          obtain rfl : b = j := by omega
          have HN2 : Hid (RcA b (k + 1) (k + 1 + 1) HS) := HI.out.2.nextA hlt
          go_wp2
          go_roundw
          case rel => exact ⟨k + 1, _, HS, by omega, by go_num, rfl, HI.out.1, HN2.out⟩
          case measure => simp [intOf]; omega
        go_wp2_with (go_at_call 43; refine (l01Once_any p v n 2 _ HI.out.1.cur hn (by omega) (by omega)).mono ?_; rintro e w2 ⟨c, rfl, hc2, hk2⟩; have H2 : Hid (DrS w wz.heap.size w2 p v n vv R hv HS ∧ RcA j k b HS) := ⟨HI.out.1.draw hp hc2 hk2, HI.out.2⟩; clear hc2 hk2 HI; cases c)
        · have HN2 : Hid (RcA j k (b + 1) HS) := H2.out.2.skip
          go_wp2
          go_roundw
          case rel => exact ⟨b + 1, _, HS, by omega, by omega, by go_num, rfl, H2.out.1, HN2.out⟩
          case measure => simp [intOf]; omega
        have hGS : Hid (HS.length ≤ 1048576) := by
          have h1 := H2.out.2.len
          have h2 : ∀ n : Fin 6, ∀ a : Fin 6, pA n.val a.val ≤ 25 := by decide
          have h3 := h2 ⟨j, by omega⟩ ⟨k, by omega⟩
          simp only at h3
          show _ ≤ _; omega
        go_wp2_with (first
          | (go_at_call 47; refine (l01Below_any p v n 3 _ H2.out.1.cur hn (by omega) (by omega)).mono ?_; rintro e w5 ⟨c, hc, rfl, hc5, hk5⟩; have H5 : Hid (DrS w wz.heap.size w5 p v n vv R hv HS ∧ RcA j k (b + 1) (HS ++ [[(k : Int), (b : Int), 1 + c]])) := ⟨H2.out.1.draw hp hc5 hk5, H2.out.2.push (by omega) hlt2 (by omega)⟩; clear hc5 hk5 H2; obtain ⟨vs, hown6, hpush⟩ := H5.out.1.ow.pushed ((Below.refl _ w5).alloc (Nat.le_refl _) _) (rowLit3 w5 k b (1 + c)); have HO := Lib.hid hown6; have HP := Lib.hid hpush; clear hown6 hpush)
          | (at_builtin; refine appS rfl _ _ rfl (w5.alloc (.cells #[.int .i64 k, .int .i64 b, .int .i64 (1 + c)] 3)) wz.heap.size hv HS.length vs rfl HO.out _ 3 3 (by rw [World.size_alloc]; rfl) hGS.out (Nat.le_trans H5.out.1.lo1 (by simp)) ?_; intro v7 w7 hown7 hb7 _ hg7; have H7 : Hid (DrS w wz.heap.size w7 p v n vv R v7 (HS ++ [[(k : Int), (b : Int), 1 + c]])) := H5.out.1.next HC.out ((Below.refl _ w5).alloc (Nat.le_refl _) _) hb7 (HP.out _ _ hown7 hg7); clear hown7 hb7 hg7))
        go_roundw
        case rel => exact ⟨b + 1, _, _, by omega, by omega, by go_num, rfl, H7.out, H5.out.2⟩
        case measure => simp [intOf]; omega

theorem makeRace_any (v : Value) (n m : Nat) (w : World) (hv : InB w v n) (hn : n ≤ 1048576) (hm : m ≤ 1048576) :
    Calls Tryz.prog 6 #[v, .int .i64 (m : Int)] w fun e w' => ∃ (vr vg : Value) (r : List Int) (gs : List (List Int)), e = .returned (.tuple #[vr, vg]) ∧ (raceB r gs = true ∧ r.length ≤ 5) ∧ InI w' vr r ∧ InS w' vg gs ∧ Below w.heap.size w w' := by
  have HV := Lib.hid hv
  clear hv
  go_enter Tryz.func6, Tryz.ntmps6
  go_wp2_with (first
    | (go_at_call 23; refine (l32New_any v n m w HV.out hn hm).mono ?_; rintro e w1 ⟨rfl, hc, hb⟩; have HC : Hid (Cur w1 w.heap.size v n ∧ Below w.heap.size w w1) := ⟨hc, hb⟩; clear hc hb)
    | (go_at_call 25; refine (l14Draw_any w.heap.size v n _ HC.out.1 hn).mono ?_; rintro e w2 ⟨vr, vg, r, gs, rfl, hd, h1, h2, hk2⟩; have H2 : Hid ((raceB r gs = true ∧ r.length ≤ 5) ∧ InI w2 vr r ∧ InS w2 vg gs ∧ Below w.heap.size w w2) := ⟨hd, h1, h2, HC.out.2.trans (hk2.below (Nat.le_refl _) (Nat.le_of_lt HC.out.1.lt))⟩; clear hd h1 h2 hk2))
  go_ret2
  exact ⟨_, _, r, gs, rfl, H2.out⟩
end Go.Proofs.YtofpaekokmkhgaaGreatDoor
namespace Go.Proofs.YtofpaekokmkhgaaGreatDoor
open Go.ChangeShapes Go.WideShapes Go.ChangeAt Go.RowKit

theorem SlI.drop_ {w : World} {b off : Nat} {xs : List Int} (h : SlI w (some ⟨b, off, none⟩) xs) (k : Nat) : SlI w (some ⟨b, off + k, none⟩) (xs.drop k) := by
  rcases h with rfl | ⟨b', off', he, h⟩
  · exact .inl (by simp)
  · injection he with he; injection he with h1 h2; subst h1; subst h2
    refine .inr ⟨b, off + k, rfl, fun i x hx => ?_⟩
    rw [List.getElem?_drop] at hx
    have := h _ _ hx
    rw [show off + k + i = off + (k + i) from by omega]; exact this
theorem SlI.take_ {w : World} {A : Option Addr} {xs : List Int} (h : SlI w A xs) (k : Nat) : SlI w A (xs.take k) := by
  rcases h with rfl | ⟨b', off', rfl, h⟩
  · exact .inl (by simp)
  · refine .inr ⟨b', off', rfl, fun i x hx => ?_⟩
    rw [List.getElem?_take] at hx
    split at hx
    · exact h _ _ hx
    · cases hx
end Go.Proofs.YtofpaekokmkhgaaGreatDoor
