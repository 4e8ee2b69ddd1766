/- The league that is drawn from a code (printed by print/mkl.py). -/
import Derived.Test.YthlkhmbndaecfaaRepl
import Derived.Test.YthlkhmbndaecfaaCq
import Derived.Test.YthlkhmbndaecfaaLb
import Derived.RangeFuncRecord
namespace Go.Proofs.Ythlkhmbndaecfaa
open Go.ChangeShapes Go.WideShapes Go.ChangeAt Go.RowKit

theorem lb_cell {W : World} {b : Nat} {x y : Value} {t : TypeId} (h : W.heap[b]? = some (.cells #[x, y] t (0, 0))) :
    (W.cell? ⟨b, 0, none⟩ = some x ∧ W.cell? ⟨b, 1, none⟩ = some y) ∧ W.frozen? ⟨b, 0, none⟩ = false ∧ W.frozen? ⟨b, 1, none⟩ = false := by
  refine ⟨⟨?_, ?_⟩, ?_, ?_⟩ <;> simp [World.cell?, World.frozen?, h]
theorem lb_set1 {W : World} {b : Nat} {x y u : Value} {t : TypeId} (h : W.heap[b]? = some (.cells #[x, y] t (0, 0))) : (W.setCell ⟨b, 1, none⟩ u).heap[b]? = some (.cells #[x, u] t (0, 0)) := by
  have hb := (Array.getElem?_eq_some_iff.1 h).1
  have hb2 := (Array.getElem?_eq_some_iff.1 h).2
  show (W.heap.modify b _)[b]? = _
  rw [Array.getElem?_eq_getElem (by rw [Array.size_modify]; exact hb), Array.getElem_modify_self, hb2]
  rfl
/-- A league being drawn: the result's box, the league's own box (block b), its rows behind it, the cursor. -/
structure DrL (w wr : World) (p : Nat) (v : Value) (n b N : Nat) (rv : Value) (rs : List Res) : Prop where
  h2 : wr.heap[w.heap.size]? = some (.cells #[.int .i64 0, .slice none 0 0] 25 (0, 0))
  hb : wr.heap[b]? = some (.cells #[.int .i64 (N : Int), rv] 25 (0, 0))
  lo : w.heap.size < b
  fr : FrR wr (b + 1) wr.heap.size rv rs
  cur : Cur wr p v n
  keep : Keep p (p + 1) w wr
  ok : rs.all (resB (N : Int)) = true
theorem DrL.q0 {w wr : World} {p n b N : Nat} {v rv : Value} {rs : List Res} (h : DrL w wr p v n b N rv rs) : wr.cell? ⟨b, 0, none⟩ = some (.int .i64 (N : Int)) := (lb_cell h.hb).1.1
theorem DrL.q1 {w wr : World} {p n b N : Nat} {v rv : Value} {rs : List Res} (h : DrL w wr p v n b N rv rs) : wr.cell? ⟨b, 1, none⟩ = some rv := (lb_cell h.hb).1.2
theorem DrL.litq {w wr : World} {p n b N : Nat} {v rv : Value} {rs : List Res} (h : DrL w wr p v n b N rv rs) (r : Res) : (wr.alloc (.cells #[.int .i64 r.h, .int .i64 r.a, .int .i64 r.g, .int .i64 r.t] 39)).cell? ⟨b, 1, none⟩ = some rv := by
  have hlt := (Array.getElem?_eq_some_iff.1 h.hb).1
  exact (((Below.refl wr.heap.size wr).alloc (Nat.le_refl _) _).cell (p := ⟨b, 1, none⟩) hlt).trans h.q1
theorem DrL.litq0 {w wr : World} {p n b N : Nat} {v rv : Value} {rs : List Res} (h : DrL w wr p v n b N rv rs) (r : Res) : (wr.alloc (.cells #[.int .i64 r.h, .int .i64 r.a, .int .i64 r.g, .int .i64 r.t] 39)).cell? ⟨b, 0, none⟩ = some (.int .i64 (N : Int)) := by
  have hlt := (Array.getElem?_eq_some_iff.1 h.hb).1
  exact (((Below.refl wr.heap.size wr).alloc (Nat.le_refl _) _).cell (p := ⟨b, 0, none⟩) hlt).trans h.q0
theorem DrL.litown {w wr : World} {p n b N : Nat} {v rv : Value} {rs : List Res} (h : DrL w wr p v n b N rv rs) (r : Res) : (wr.alloc (.cells #[.int .i64 r.h, .int .i64 r.a, .int .i64 r.g, .int .i64 r.t] 39)).ownsRow (b + 1) 39 4 rv rs.length (ints (flat rs)) :=
  (h.fr.grow ((Below.refl wr.heap.size wr).alloc (Nat.le_refl _) _)).1
theorem DrL.litsz {w wr : World} {p n b N : Nat} {v rv : Value} {rs : List Res} (h : DrL w wr p v n b N rv rs) (r : Res) : b + 1 ≤ (wr.alloc (.cells #[.int .i64 r.h, .int .i64 r.a, .int .i64 r.g, .int .i64 r.t] 39)).heap.size := by
  have hlt := (Array.getElem?_eq_some_iff.1 h.hb).1
  simp; omega
theorem DrL.litbe {w wr w5 : World} {p n b N : Nat} {v rv : Value} {rs : List Res} (h : DrL w wr p v n b N rv rs) (r : Res) (hb : Below (b + 1) (wr.alloc (.cells #[.int .i64 r.h, .int .i64 r.a, .int .i64 r.g, .int .i64 r.t] 39)) w5) : Below (b + 1) wr w5 := by
  have hlt := (Array.getElem?_eq_some_iff.1 h.hb).1
  exact ((Below.refl (b + 1) wr).alloc hlt _).trans hb
theorem slR_lit (w : World) (r : Res) : SlR (w.alloc (.cells #[.int .i64 r.h, .int .i64 r.a, .int .i64 r.g, .int .i64 r.t] 39)) (some ⟨w.heap.size, 0, none⟩) [r] := by
  refine .inr ⟨_, _, rfl, fun k x hk => ?_⟩
  have hf : flat [r] = [r.h, r.a, r.g, r.t] := rfl
  rw [hf] at hk
  rcases k with _ | _ | _ | _ | k
  · have hk : r.h = x := Option.some.inj hk
    subst hk
    show World.cell? _ ⟨w.heap.size, 0, none⟩ = _
    simp
  · have hk : r.a = x := Option.some.inj hk
    subst hk
    show World.cell? _ ⟨w.heap.size, 1, none⟩ = _
    simp
  · have hk : r.g = x := Option.some.inj hk
    subst hk
    show World.cell? _ ⟨w.heap.size, 2, none⟩ = _
    simp
  · have hk : r.t = x := Option.some.inj hk
    subst hk
    show World.cell? _ ⟨w.heap.size, 3, none⟩ = _
    simp
  · cases hk
theorem DrL.draw {w wr w2 : World} {p n b N : Nat} {v rv : Value} {rs : List Res} (h : DrL w wr p v n b N rv rs) (hp : p < w.heap.size) (hc : Cur w2 p v n) (hk : Keep p (p + 1) wr w2) : DrL w w2 p v n b N rv rs := by
  have z2 := (Array.getElem?_eq_some_iff.1 h.h2).1
  have zb := (Array.getElem?_eq_some_iff.1 h.hb).1
  have hl := h.lo
  exact ⟨(hk.block _ z2 (by omega)).trans h.h2, (hk.block _ zb (by omega)).trans h.hb, h.lo, (h.fr.keep hk (.inr (by omega))).wide (Nat.le_refl _) hk.size (Nat.le_refl _), hc, h.keep.trans hk, h.ok⟩
theorem DrL.put {w wr w5 : World} {p n b N : Nat} {v rv v5 : Value} {rs : List Res} {r : Res} (h : DrL w wr p v n b N rv rs) (hp : p < w.heap.size) (hc0 : Cur w p v n) (hr : resB (N : Int) r = true)
    (hown : w5.ownsRow (b + 1) 39 4 v5 (rs.length + 1) (ints (flat (rs ++ [r])))) (hb : Below (b + 1) wr w5) : DrL w (w5.setCell ⟨b, 1, none⟩ v5) p v n b N v5 (rs ++ [r]) := by
  have z2 := (Array.getElem?_eq_some_iff.1 h.h2).1
  have zb := (Array.getElem?_eq_some_iff.1 h.hb).1
  have hl := h.lo
  have b5 := (hb.block b (Nat.lt_succ_self _)).trans h.hb
  have KP : Keep b (b + 1) w5 (w5.setCell ⟨b, 1, none⟩ v5) := (Keep.refl _ _ _).setCell (p := ⟨b, 1, none⟩) (Nat.le_refl _) (Nat.lt_succ_self _) _
  have hf : FrR w5 (b + 1) w5.heap.size v5 (rs ++ [r]) := FrR.of_own (by rw [List.length_append]; exact hown)
  have hz := hb.size
  have hB : Below b wr (w5.setCell ⟨b, 1, none⟩ v5) := (hb.mono (Nat.le_succ _)).trans (KP.below (Nat.le_refl _) (by omega))
  refine ⟨(KP.block _ (by omega) (by omega)).trans ((hb.block _ (by omega)).trans h.h2), lb_set1 b5, h.lo, (hf.keep KP (.inr (Nat.le_refl _))).wide (Nat.le_refl _) KP.size (Nat.le_refl _), hc0.far h.cur (by omega) hB, h.keep.far hB (by omega), ?_⟩
  rw [List.all_append, h.ok]; simp [hr]

theorem DrL.drew {w wr : World} {p n b N : Nat} {v rv : Value} {rs : List Res} (h : DrL w wr p v n b N rv rs) (hp : p < w.heap.size) : DrL w wr.drew p v n b N rv rs :=
  h.draw hp (h.cur.drewN 1) ⟨rfl, rfl, rfl, Nat.le_refl _, fun _ _ _ => rfl⟩

theorem resB_mk {N a B : Nat} {g t : Int} (ha : a < N) (hB : B < N) (hne : B ≠ a) (hg : 0 ≤ g ∧ g < 4) (ht : 0 ≤ t ∧ t < 4) : resB (N : Int) ⟨a, B, g, t⟩ = true := by
  simp only [resB, Bool.and_eq_true, inB_t, Bool.not_eq_true', beq_eq_false_iff_ne]
  refine ⟨by omega, by omega, by omega, by omega, by omega⟩
theorem otherTo {a N : Nat} {y : Int} (ha : a < N) (hy : 0 ≤ y ∧ y < (N : Int) - 1) : ∃ B : Nat, Int.tmod ((a : Int) + 1 + y) (N : Int) = (B : Int) ∧ B < N ∧ B ≠ a := by
  obtain ⟨k, rfl⟩ := Int.eq_ofNat_of_zero_le hy.1
  have hk : k + 1 < N := by omega
  refine ⟨(a + 1 + k) % N, ?_, Nat.mod_lt _ (by omega), ?_⟩
  · rw [Int.tmod_eq_emod_of_nonneg (by omega)]; push_cast; rfl
  · by_cases h : a + 1 + k < N
    · rw [Nat.mod_eq_of_lt h]; omega
    · rw [Nat.mod_eq_sub_mod (by omega), Nat.mod_eq_of_lt (by omega)]; omega
set_option maxHeartbeats 4000000 in
set_option maxRecDepth 100000 in
theorem l12Draw_any (p : Nat) (v : Value) (n : Nat) (w : World) (hc : Cur w p v n) (hn : n ≤ 1048576) :
    Calls Try.prog 20 #[.pointer (some ⟨p, 0, none⟩)] w fun e w' => ∃ (vl : Value) (x : LeagueV), e = .returned vl ∧ leagueB x = true ∧ x.clubs ≤ 6 ∧ x.results.length ≤ 12 ∧ OwL w' w.heap.size w'.heap.size vl x ∧ Cur w' p v n ∧ Keep p (p + 1) w w' := by
  have HC := Lib.hid hc
  have hp := hc.lt
  clear hc
  have b0 : Below w.heap.size w (w.alloc (.cells #[.int .i64 0, .slice none 0 0] 25)) := (Below.refl _ w).alloc (Nat.le_refl _) _
  have H0 : Hid (Cur (w.alloc (.cells #[.int .i64 0, .slice none 0 0] 25)) p v n ∧ Keep p (p + 1) w (w.alloc (.cells #[.int .i64 0, .slice none 0 0] 25)) ∧ (w.alloc (.cells #[.int .i64 0, .slice none 0 0] 25)).heap[w.heap.size]? = some (.cells #[.int .i64 0, .slice none 0 0] 25 (0, 0)) ∧ (w.alloc (.cells #[.int .i64 0, .slice none 0 0] 25)).heap.size = w.heap.size + 1) :=
    ⟨HC.out.far HC.out (Nat.le_refl _) b0, (Keep.refl _ _ _).far b0 (Nat.le_refl _), World.alloc_heap_new w _, by simp⟩
  clear b0
  go_enter Try.func20, Try.ntmps20
  go_wp2_with fail
  refine (l01Below_any p v n 5 _ H0.out.1 hn (by omega) (by omega)).mono ?_
  rintro e w1 ⟨x, hx, rfl, hc1, hk1⟩
  have H1 : Hid (Cur w1 p v n ∧ Keep p (p + 1) w w1 ∧ w1.heap[w.heap.size]? = some (.cells #[.int .i64 0, .slice none 0 0] 25 (0, 0)) ∧ w.heap.size < w1.heap.size) :=
    ⟨hc1, H0.out.2.1.trans hk1, (hk1.block _ (by rw [H0.out.2.2.2]; omega) (by omega)).trans H0.out.2.2.1, by have := hk1.size; rw [H0.out.2.2.2] at this; omega⟩
  clear hc1 hk1 H0
  obtain ⟨N, hN⟩ : ∃ N : Nat, 2 + x = (N : Int) := ⟨(2 + x).toNat, by omega⟩
  have hN2 : 2 ≤ N ∧ N ≤ 6 := by omega
  have hNw : IntKind.i64.wrap (2 + x) = (N : Int) := by rw [IntKind.wrap_i64]; omega
  clear hN hx
  go_wp2_with fail
  obtain ⟨b, hb1⟩ : ∃ b, w1.heap.size = b := ⟨_, rfl⟩
  have H2 : Hid (DrL w (w1.alloc (.cells #[.int .i64 (N : Int), .slice none 0 0] 25)) p v n b N (.slice none 0 0) []) := by
    subst hb1
    have bB : Below w1.heap.size w1 (w1.alloc (.cells #[.int .i64 (N : Int), .slice none 0 0] 25)) := (Below.refl _ w1).alloc (Nat.le_refl _) _
    exact ⟨(bB.block _ H1.out.2.2.2).trans H1.out.2.2.1, World.alloc_heap_new w1 _, H1.out.2.2.2, FrR.nil _ (Nat.le_refl _), HC.out.far H1.out.1 H1.out.2.1.size bB, H1.out.2.1.far bB H1.out.2.1.size, rfl⟩
  rw [hb1]
  clear H1 hNw hb1
  refine (l01Below_any p v n 12 _ H2.out.cur hn (by omega) (by omega)).mono ?_
  rintro e w2 ⟨x2, hx2, rfl, hc2, hk2⟩
  have H3 := Lib.hid (H2.out.draw hp hc2 hk2)
  clear hc2 hk2 H2
  obtain ⟨K0, rfl⟩ := Int.eq_ofNat_of_zero_le hx2.1
  have hK0 : K0 + 0 ≤ 12 := by omega
  clear hx2
  go_wp2
  go_loopw [4] (fun i wr => ∃ (k : Nat) (Ar : Option Addr) (cr : Nat) (rs : List Res), i = .int .i64 (k : Int) ∧ k + rs.length ≤ 12 ∧ Hid (DrL w wr p v n b N (.slice Ar rs.length cr) rs)) (fun i _ => (intOf i).toNat)
  case atStart => exact ⟨K0, none, 0, [], rfl, hK0, H3.out⟩
  case round =>
    obtain ⟨k, Ar, cr, rs, rfl, hk, HR⟩ := hrel
    clear H3 hK0
    by_cases hlt : k = 0
    case pos =>
      subst hlt
      obtain ⟨⟨q0, q1⟩, f0, f1⟩ := lb_cell HR.out.hb
      obtain ⟨⟨z0, z1⟩, g0, g1⟩ := lb_cell HR.out.h2
      have zz := (Array.getElem?_eq_some_iff.1 HR.out.h2).1
      go_wp2
      have KP : Keep w.heap.size (w.heap.size + 1) wr ((wr.setCell ⟨w.heap.size, 0, none⟩ (.int .i64 (N : Int))).setCell ⟨w.heap.size, 1, none⟩ (.slice Ar rs.length cr)) :=
        ((Keep.refl _ _ _).setCell (p := ⟨w.heap.size, 0, none⟩) (Nat.le_refl _) (Nat.lt_succ_self _) _).setCell (p := ⟨w.heap.size, 1, none⟩) (Nat.le_refl _) (Nat.lt_succ_self _) _
      have hB := KP.below (Nat.le_refl _) (Nat.le_of_lt zz)
      obtain ⟨A', c', he, hc1, hc2⟩ := HR.out.fr.form
      injection he with he1 he2 he3
      subst he1; subst he3
      refine bodyPost_ret (v := .agg #[.int .i64 (N : Int), .slice Ar rs.length cr]) (by simp [results, Try.results20, go_sem, z0, z1]) rfl ⟨_, ⟨(N : Int), rs⟩, rfl, ?_, by show (N : Int) ≤ 6; omega, by show rs.length ≤ 12; omega, ⟨_, rfl, (HR.out.fr.keep KP (.inr (by have := HR.out.lo; omega))).wide (by have := HR.out.lo; omega) KP.size (Nat.le_refl _), WalkArith.wf_i64 (by show -9223372036854775808 ≤ (N : Int) ∧ (N : Int) ≤ 9223372036854775807; omega)⟩, HC.out.far HR.out.cur (Nat.le_refl _) hB, HR.out.keep.far hB (Nat.le_refl _)⟩
      have ho := HR.out.ok
      simp only [leagueB, Bool.and_eq_true, inB_t, decide_eq_true_eq]
      exact ⟨by omega, by omega, ho⟩
    case neg =>
      have hk0 : (0 : Int) < (k : Int) := by omega
      have q0 := HR.out.q0
      go_wp2_with fail
      refine (l01Below_any p v n (N : Int) _ HR.out.cur hn (by omega) (by omega)).mono ?_
      rintro e w5 ⟨y, hy, rfl, hc5, hk5⟩
      have H5 := Lib.hid (HR.out.draw hp hc5 hk5)
      clear hc5 hk5 HR q0
      obtain ⟨a, rfl⟩ := Int.eq_ofNat_of_zero_le hy.1
      have ha : a < N := by omega
      clear hy
      have q0 := H5.out.q0
      have e1 : IntKind.i64.wrap ((a : Int) + 1) = (a : Int) + 1 := by rw [IntKind.wrap_i64]; omega
      have e2 : IntKind.i64.wrap ((N : Int) - 1) = (N : Int) - 1 := by rw [IntKind.wrap_i64]; omega
      have nz0 : (N : Int) ≠ 0 := by omega
      have nz2 : ¬ N = 0 := by omega
      have nz3 : ((N : Int) = 0) = False := eq_false nz0
      go_upto_region 6 with (fail)
      have H5d := Lib.hid (H5.out.drew hp)
      clear H5
      go_region_held3 (fun W => W.cell? ⟨b, 0, none⟩ = some (.int .i64 (N : Int))) (first | assumption | (simp [go_sem, *]; done)) (first
        | (go_at_call 41; refine (l01Below_any p v n ((N : Int) - 1) _ H5d.out.cur hn (by omega) (by omega)).mono ?_; rintro e w6 ⟨y, hy, rfl, hc6, hk6⟩; have H6 := Lib.hid (H5d.out.draw hp hc6 hk6); clear hc6 hk6 H5d; have q6 := H6.out.q0; obtain ⟨B, hB, hBN, hBa⟩ := otherTo ha hy; have e3 : IntKind.i64.wrap ((a : Int) + 1 + y) = (a : Int) + 1 + y := (by rw [IntKind.wrap_i64]; omega)))
      clear q0 q6 e1 e2 hy
      go_wp2_with fail
      refine (l01Below_any p v n 4 _ H6.out.cur hn (by omega) (by omega)).mono ?_
      rintro e w7 ⟨g, hg, rfl, hc7, hk7⟩
      have H7 := Lib.hid (H6.out.draw hp hc7 hk7)
      clear hc7 hk7 H6
      go_upto_region 8 with (fail)
      have H8 := Lib.hid (H7.out.drew hp)
      clear H7
      have q1 := H8.out.q1
      -- region 8
      refine wp_region_held_drew (S := fun W => W.cell? ⟨b, 0, none⟩ = some (.int .i64 (N : Int))) (by kernel_rfl) H8.out.q0 (fun hHeld => ?_)
      refine wpAnyH_take (i := 0) (v := ?v1) rfl (by kernel_rfl) (by kernel_rfl) (by kernel_rfl) (fun _ _ _ h => h) (Or.inl ⟨by rfl, ?hy1⟩) (by assumption) ?_
      case hy1 => (intro w hSw; (try dsimp only at hSw); go_simp <;> (try with_reducible rfl))
      try simp only [Act.put, List.setIfInBounds_toArray, List.set_cons_zero, List.set_cons_succ]
      refine wpAnyH_take (i := 2) (v := ?v2) rfl (by kernel_rfl) (by kernel_rfl) (by kernel_rfl) (fun _ _ _ h => h) (Or.inl ⟨by rfl, ?hy2⟩) (by assumption) ?_
      case hy2 => (intro w hSw; (try dsimp only at hSw); go_simp <;> (try with_reducible rfl))
      try simp only [Act.put, List.setIfInBounds_toArray, List.set_cons_zero, List.set_cons_succ]
      refine wpAnyH_take (i := 3) (v := ?v3) rfl (by kernel_rfl) (by kernel_rfl) (by kernel_rfl) (fun _ _ _ h => h) (Or.inl ⟨by rfl, ?hy3⟩) (by assumption) ?_
      case hy3 => (intro w hSw; (try dsimp only at hSw); go_simp <;> (try with_reducible rfl))
      try simp only [Act.put, List.setIfInBounds_toArray, List.set_cons_zero, List.set_cons_succ]
      refine wpAnyH_take (i := 4) (v := ?v4) rfl (by kernel_rfl) (by kernel_rfl) (by kernel_rfl) (fun _ _ _ h => h) (Or.inl ⟨by rfl, ?hy4⟩) (by assumption) ?_
      case hy4 => (intro w hSw; (try dsimp only at hSw); go_simp <;> (try with_reducible rfl))
      try simp only [Act.put, List.setIfInBounds_toArray, List.set_cons_zero, List.set_cons_succ]
      refine wpAnyH_take (i := 5) (v := ?v5) rfl (by kernel_rfl) (by kernel_rfl) (by kernel_rfl) (fun _ _ _ h => h) (Or.inl ⟨by rfl, ?hy5⟩) (by assumption) ?_
      case hy5 => (intro w hSw; (try dsimp only at hSw); go_simp <;> (try with_reducible rfl))
      try simp only [Act.put, List.setIfInBounds_toArray, List.set_cons_zero, List.set_cons_succ]
      refine wpAnyH_ready (rs := [1, 6]) (by kernel_rfl) (by simp) ?_
      refine AllReadyH.cons rfl (fun K hK => ?_) (AllReadyH.cons rfl (fun K hK => ?_) AllReadyH.nil)
      · go_simp
        refine hK.out _ _ H8.out.q0 (fun hHeld => ?_)
        clear hK K
        try simp only [Act.put, List.setIfInBounds_toArray, List.set_cons_zero, List.set_cons_succ]
        refine wpAnyH_ready (rs := [6]) (by kernel_rfl) (by simp) ?_
        refine AllReadyH.cons rfl (fun K hK => ?_) AllReadyH.nil
        go_simp
        go_at_call 41
        refine (l01Below_any p v n 4 _ H8.out.cur hn (by omega) (by omega)).mono ?_
        rintro e w9 ⟨t, ht, rfl, hc9, hk9⟩
        have H9 := Lib.hid (H8.out.draw hp hc9 hk9)
        clear hc9 hk9 H8
        go_wp2_with fail
        refine hK.out _ _ H9.out.q0 (fun hHeld => ?_)
        clear hK K
        try simp only [Act.put, List.setIfInBounds_toArray, List.set_cons_zero, List.set_cons_succ]
        refine wpAnyH_take (i := 7) (v := ?v6) rfl (by kernel_rfl) (by kernel_rfl) (by kernel_rfl) (fun _ _ _ h => h) (Or.inl ⟨by rfl, ?hy6⟩) (by assumption) ?_
        case hy6 => (intro w hSw; (try dsimp only at hSw); go_simp <;> (try with_reducible rfl))
        try simp only [Act.put, List.setIfInBounds_toArray, List.set_cons_zero, List.set_cons_succ]
        refine wpAnyH_ready (rs := [8]) (by kernel_rfl) (by simp) ?_
        refine AllReadyH.cons rfl (fun K hK => ?_) AllReadyH.nil
        go_simp
        refine hK.out _ _ (H9.out.litq0 ⟨a, B, g, t⟩) (fun hHeld => ?_)
        clear hK K
        try simp only [Act.put, List.setIfInBounds_toArray, List.set_cons_zero, List.set_cons_succ]
        refine wpAnyH_ready (rs := [9]) (by kernel_rfl) (by simp) ?_
        refine AllReadyH.cons rfl (fun K hK => ?_) AllReadyH.nil
        refine stepAppR rfl (.tmp 36) (.tmp 43) rfl (b + 1) _ rs.length rs rfl (H9.out.litown ⟨a, B, g, t⟩) ⟨w9.heap.size, 0, none⟩ 1 1 [⟨a, B, g, t⟩] rfl rfl (slR_lit w9 ⟨a, B, g, t⟩) (by omega) (H9.out.litsz ⟨a, B, g, t⟩) ?_
        intro v5 w10 hown hb10 hg10
        have H10 := Lib.hid (H9.out.put hp HC.out (resB_mk ha hBN hBa hg ht) hown (H9.out.litbe ⟨a, B, g, t⟩ (hb10 _ (Nat.le_refl _) (H9.out.litsz ⟨a, B, g, t⟩))))
        obtain ⟨⟨q5, q6⟩, -, f6⟩ := lb_cell ((H9.out.litbe ⟨a, B, g, t⟩ (hb10 _ (Nat.le_refl _) (H9.out.litsz ⟨a, B, g, t⟩))).block b (Nat.lt_succ_self _) |>.trans H9.out.hb)
        obtain ⟨A5, c5, hv5, hc5, hm5⟩ := H10.out.fr.form
        simp only [List.length_append, List.length_cons, List.length_nil, Nat.zero_add] at hv5
        subst hv5
        clear hown hb10 hg10 H9
        refine hK.out _ _ q5 (fun hHeld => ?_)
        clear hK K
        try simp only [Act.put, List.setIfInBounds_toArray, List.set_cons_zero, List.set_cons_succ]
        refine wpAnyH_take (i := 10) (v := ?v7) rfl (by kernel_rfl) (by kernel_rfl) (by kernel_rfl) (fun _ _ _ h => h) (Or.inl ⟨by rfl, ?hy7⟩) (by assumption) ?_
        case hy7 => (intro w hSw; (try dsimp only at hSw); go_simp <;> (try with_reducible rfl))
        try simp only [Act.put, List.setIfInBounds_toArray, List.set_cons_zero, List.set_cons_succ]
        refine wpAnyH_ready (rs := [11]) (by kernel_rfl) (by simp) ?_
        refine AllReadyH.cons rfl (fun K hK => ?_) AllReadyH.nil
        go_simp
        refine hK.out _ _ H10.out.q0 (fun hHeld => ?_)
        clear hK K
        try simp only [Act.put, List.setIfInBounds_toArray, List.set_cons_zero, List.set_cons_succ]
        refine wpAnyH_done (by kernel_rfl) ?_ _
        clear q5 q6 f6
        go_wp2
        go_roundw
        case rel => exact ⟨k - 1, A5, c5, rs ++ [⟨a, B, g, t⟩], by go_num, by rw [List.length_append, List.length_cons, List.length_nil]; omega, by rw [List.length_append]; exact H10.out⟩
        case measure => simp [intOf]; omega
      · go_simp
        go_at_call 41
        refine (l01Below_any p v n 4 _ H8.out.cur hn (by omega) (by omega)).mono ?_
        rintro e w9 ⟨t, ht, rfl, hc9, hk9⟩
        have H9 := Lib.hid (H8.out.draw hp hc9 hk9)
        clear hc9 hk9 H8
        go_wp2_with fail
        refine hK.out _ _ H9.out.q0 (fun hHeld => ?_)
        clear hK K
        try simp only [Act.put, List.setIfInBounds_toArray, List.set_cons_zero, List.set_cons_succ]
        refine wpAnyH_take (i := 7) (v := ?v8) rfl (by kernel_rfl) (by kernel_rfl) (by kernel_rfl) (fun _ _ _ h => h) (Or.inl ⟨by rfl, ?hy8⟩) (by assumption) ?_
        case hy8 => (intro w hSw; (try dsimp only at hSw); go_simp <;> (try with_reducible rfl))
        try simp only [Act.put, List.setIfInBounds_toArray, List.set_cons_zero, List.set_cons_succ]
        refine wpAnyH_ready (rs := [1, 8]) (by kernel_rfl) (by simp) ?_
        refine AllReadyH.cons rfl (fun K hK => ?_) (AllReadyH.cons rfl (fun K hK => ?_) AllReadyH.nil)
        · have z1 := H9.out.q1
          go_simp
          refine hK.out _ _ H9.out.q0 (fun hHeld => ?_)
          clear hK K
          try simp only [Act.put, List.setIfInBounds_toArray, List.set_cons_zero, List.set_cons_succ]
          refine wpAnyH_ready (rs := [8]) (by kernel_rfl) (by simp) ?_
          refine AllReadyH.cons rfl (fun K hK => ?_) AllReadyH.nil
          go_simp
          refine hK.out _ _ (H9.out.litq0 ⟨a, B, g, t⟩) (fun hHeld => ?_)
          clear hK K
          try simp only [Act.put, List.setIfInBounds_toArray, List.set_cons_zero, List.set_cons_succ]
          refine wpAnyH_ready (rs := [9]) (by kernel_rfl) (by simp) ?_
          refine AllReadyH.cons rfl (fun K hK => ?_) AllReadyH.nil
          refine stepAppR rfl (.tmp 36) (.tmp 43) rfl (b + 1) _ rs.length rs rfl (H9.out.litown ⟨a, B, g, t⟩) ⟨w9.heap.size, 0, none⟩ 1 1 [⟨a, B, g, t⟩] rfl rfl (slR_lit w9 ⟨a, B, g, t⟩) (by omega) (H9.out.litsz ⟨a, B, g, t⟩) ?_
          intro v5 w10 hown hb10 hg10
          have H10 := Lib.hid (H9.out.put hp HC.out (resB_mk ha hBN hBa hg ht) hown (H9.out.litbe ⟨a, B, g, t⟩ (hb10 _ (Nat.le_refl _) (H9.out.litsz ⟨a, B, g, t⟩))))
          obtain ⟨⟨q5, q6⟩, -, f6⟩ := lb_cell ((H9.out.litbe ⟨a, B, g, t⟩ (hb10 _ (Nat.le_refl _) (H9.out.litsz ⟨a, B, g, t⟩))).block b (Nat.lt_succ_self _) |>.trans H9.out.hb)
          obtain ⟨A5, c5, hv5, hc5, hm5⟩ := H10.out.fr.form
          simp only [List.length_append, List.length_cons, List.length_nil, Nat.zero_add] at hv5
          subst hv5
          clear hown hb10 hg10 H9
          refine hK.out _ _ q5 (fun hHeld => ?_)
          clear hK K
          try simp only [Act.put, List.setIfInBounds_toArray, List.set_cons_zero, List.set_cons_succ]
          refine wpAnyH_take (i := 10) (v := ?v9) rfl (by kernel_rfl) (by kernel_rfl) (by kernel_rfl) (fun _ _ _ h => h) (Or.inl ⟨by rfl, ?hy9⟩) (by assumption) ?_
          case hy9 => (intro w hSw; (try dsimp only at hSw); go_simp <;> (try with_reducible rfl))
          try simp only [Act.put, List.setIfInBounds_toArray, List.set_cons_zero, List.set_cons_succ]
          refine wpAnyH_ready (rs := [11]) (by kernel_rfl) (by simp) ?_
          refine AllReadyH.cons rfl (fun K hK => ?_) AllReadyH.nil
          go_simp
          refine hK.out _ _ H10.out.q0 (fun hHeld => ?_)
          clear hK K
          try simp only [Act.put, List.setIfInBounds_toArray, List.set_cons_zero, List.set_cons_succ]
          refine wpAnyH_done (by kernel_rfl) ?_ _
          clear q5 q6 f6
          go_wp2
          go_roundw
          case rel => exact ⟨k - 1, A5, c5, rs ++ [⟨a, B, g, t⟩], by go_num, by rw [List.length_append, List.length_cons, List.length_nil]; omega, by rw [List.length_append]; exact H10.out⟩
          case measure => simp [intOf]; omega
        · go_simp
          refine hK.out _ _ (H9.out.litq0 ⟨a, B, g, t⟩) (fun hHeld => ?_)
          clear hK K
          try simp only [Act.put, List.setIfInBounds_toArray, List.set_cons_zero, List.set_cons_succ]
          refine wpAnyH_ready (rs := [1]) (by kernel_rfl) (by simp) ?_
          refine AllReadyH.cons rfl (fun K hK => ?_) AllReadyH.nil
          have z1 := H9.out.litq ⟨a, B, g, t⟩
          go_simp
          refine hK.out _ _ (H9.out.litq0 ⟨a, B, g, t⟩) (fun hHeld => ?_)
          clear hK K
          try simp only [Act.put, List.setIfInBounds_toArray, List.set_cons_zero, List.set_cons_succ]
          refine wpAnyH_ready (rs := [9]) (by kernel_rfl) (by simp) ?_
          refine AllReadyH.cons rfl (fun K hK => ?_) AllReadyH.nil
          refine stepAppR rfl (.tmp 36) (.tmp 43) rfl (b + 1) _ rs.length rs rfl (H9.out.litown ⟨a, B, g, t⟩) ⟨w9.heap.size, 0, none⟩ 1 1 [⟨a, B, g, t⟩] rfl rfl (slR_lit w9 ⟨a, B, g, t⟩) (by omega) (H9.out.litsz ⟨a, B, g, t⟩) ?_
          intro v5 w10 hown hb10 hg10
          have H10 := Lib.hid (H9.out.put hp HC.out (resB_mk ha hBN hBa hg ht) hown (H9.out.litbe ⟨a, B, g, t⟩ (hb10 _ (Nat.le_refl _) (H9.out.litsz ⟨a, B, g, t⟩))))
          obtain ⟨⟨q5, q6⟩, -, f6⟩ := lb_cell ((H9.out.litbe ⟨a, B, g, t⟩ (hb10 _ (Nat.le_refl _) (H9.out.litsz ⟨a, B, g, t⟩))).block b (Nat.lt_succ_self _) |>.trans H9.out.hb)
          obtain ⟨A5, c5, hv5, hc5, hm5⟩ := H10.out.fr.form
          simp only [List.length_append, List.length_cons, List.length_nil, Nat.zero_add] at hv5
          subst hv5
          clear hown hb10 hg10 H9
          refine hK.out _ _ q5 (fun hHeld => ?_)
          clear hK K
          try simp only [Act.put, List.setIfInBounds_toArray, List.set_cons_zero, List.set_cons_succ]
          refine wpAnyH_take (i := 10) (v := ?v10) rfl (by kernel_rfl) (by kernel_rfl) (by kernel_rfl) (fun _ _ _ h => h) (Or.inl ⟨by rfl, ?hy10⟩) (by assumption) ?_
          case hy10 => (intro w hSw; (try dsimp only at hSw); go_simp <;> (try with_reducible rfl))
          try simp only [Act.put, List.setIfInBounds_toArray, List.set_cons_zero, List.set_cons_succ]
          refine wpAnyH_ready (rs := [11]) (by kernel_rfl) (by simp) ?_
          refine AllReadyH.cons rfl (fun K hK => ?_) AllReadyH.nil
          go_simp
          refine hK.out _ _ H10.out.q0 (fun hHeld => ?_)
          clear hK K
          try simp only [Act.put, List.setIfInBounds_toArray, List.set_cons_zero, List.set_cons_succ]
          refine wpAnyH_done (by kernel_rfl) ?_ _
          clear q5 q6 f6
          go_wp2
          go_roundw
          case rel => exact ⟨k - 1, A5, c5, rs ++ [⟨a, B, g, t⟩], by go_num, by rw [List.length_append, List.length_cons, List.length_nil]; omega, by rw [List.length_append]; exact H10.out⟩
          case measure => simp [intOf]; omega

set_option maxHeartbeats 2000000 in
set_option maxRecDepth 100000 in
theorem makeLeague_any (v : Value) (n m : Nat) (w : World) (hv : InB w v n) (hn : n ≤ 1048576) (hm : m ≤ 1048576) :
    Calls Try.prog 4 #[v, .int .i64 (m : Int)] w fun e w' => ∃ (x : LeagueV) (A : Option Addr) (c : Nat), e = .returned (.agg #[.int .i64 x.clubs, .slice A x.results.length c]) ∧ leagueB x = true ∧ x.clubs ≤ 6 ∧ x.results.length ≤ 12 ∧ InL w' (.agg #[.int .i64 x.clubs, .slice A x.results.length c]) x ∧ Below w.heap.size w w' := by
  have b0 : Below w.heap.size w (w.alloc (.cells #[.int .i64 0, .slice none 0 0] 25)) := (Below.refl _ w).alloc (Nat.le_refl _) _
  have H0 : Hid (InB (w.alloc (.cells #[.int .i64 0, .slice none 0 0] 25)) v n ∧ Below w.heap.size w (w.alloc (.cells #[.int .i64 0, .slice none 0 0] 25)) ∧ (w.alloc (.cells #[.int .i64 0, .slice none 0 0] 25)).heap[w.heap.size]? = some (.cells #[.int .i64 0, .slice none 0 0] 25 (0, 0)) ∧ (w.alloc (.cells #[.int .i64 0, .slice none 0 0] 25)).heap.size = w.heap.size + 1) :=
    ⟨hv.below b0, b0, World.alloc_heap_new w _, by simp⟩
  clear hv b0
  go_enter Try.func4, Try.ntmps4
  go_wp2_with fail
  refine (l32New_any v n m _ H0.out.1 hn hm).mono ?_
  rintro e w1 ⟨rfl, hc, hb⟩
  have hsz := H0.out.2.2.2
  have H1 : Hid (Cur w1 (w.heap.size + 1) v n ∧ Below w.heap.size w w1 ∧ w1.heap[w.heap.size]? = some (.cells #[.int .i64 0, .slice none 0 0] 25 (0, 0)) ∧ w.heap.size + 1 < w1.heap.size) := by
    rw [hsz] at hc hb
    exact ⟨hc, H0.out.2.1.trans (hb.mono (by omega)), (hb.block _ (Nat.lt_succ_self _)).trans H0.out.2.2.1, hc.lt⟩
  rw [hsz]
  clear hc hb hsz H0
  go_wp2_with fail
  refine (l12Draw_any (w.heap.size + 1) v n w1 H1.out.1 hn).mono ?_
  rintro e w2 ⟨vl, x, rfl, hok, h6, h12, hin, -, hk⟩
  obtain ⟨u, rfl, hfr, hwf⟩ := hin
  obtain ⟨A, c, rfl, hc1, hc2⟩ := hfr.form
  have H2 : Hid (w2.heap[w.heap.size]? = some (.cells #[.int .i64 0, .slice none 0 0] 25 (0, 0)) ∧ Below w.heap.size w w2 ∧ FrR w2 w1.heap.size w2.heap.size (.slice A x.results.length c) x.results ∧ w.heap.size + 1 < w1.heap.size) :=
    ⟨(hk.block _ (by have := H1.out.2.2.2; omega) (by omega)).trans H1.out.2.2.1, H1.out.2.1.trans (hk.below (Nat.le_succ _) (by have := H1.out.2.2.2; omega)), hfr, H1.out.2.2.2⟩
  clear hk hfr H1
  obtain ⟨⟨z0, z1⟩, g0, g1⟩ := lb_cell H2.out.1
  have zz := (Array.getElem?_eq_some_iff.1 H2.out.1).1
  go_wp2
  have KP : Keep w.heap.size (w.heap.size + 1) w2 ((w2.setCell ⟨w.heap.size, 0, none⟩ (.int .i64 x.clubs)).setCell ⟨w.heap.size, 1, none⟩ (.slice A x.results.length c)) :=
    ((Keep.refl _ _ _).setCell (p := ⟨w.heap.size, 0, none⟩) (Nat.le_refl _) (Nat.lt_succ_self _) _).setCell (p := ⟨w.heap.size, 1, none⟩) (Nat.le_refl _) (Nat.lt_succ_self _) _
  have hB := KP.below (Nat.le_refl _) (Nat.le_of_lt zz)
  refine bodyPost_ret (v := .agg #[.int .i64 x.clubs, .slice A x.results.length c]) (by simp [results, Try.results4, go_sem, z0, z1]) rfl ⟨x, A, c, rfl, hok, h6, h12, ⟨A, c, rfl, hc1, hc2, (H2.out.2.2.1.keep KP (.inr (Nat.le_of_lt H2.out.2.2.2))).sl, hwf⟩, H2.out.2.1.trans hB⟩
end Go.Proofs.Ythlkhmbndaecfaa
