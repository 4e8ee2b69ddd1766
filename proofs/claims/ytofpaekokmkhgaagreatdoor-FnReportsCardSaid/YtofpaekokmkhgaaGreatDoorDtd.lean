/- Tours that are drawn from a code: mostly renamed and flipped transitive ones. -/
import Derived.Test.YtofpaekokmkhgaaGreatDoorMax
import Derived.Test.YtofpaekokmkhgaaGreatDoorDtr
namespace Go.Proofs.YtofpaekokmkhgaaGreatDoor
open Go.ChangeShapes Go.WideShapes Go.ChangeAt Go.RowKit

theorem l02OfN (m : Nat) (M : Int) (w : World) (h1 : 1 ≤ m) (h8 : m ≤ 8) (hm0 : 0 ≤ M) (hm : M < 536870912) :
    Calls Tryz.prog 45 #[.int .i64 (m : Int), .int .i64 M] w fun e w' => ∃ A c xs, xs.length = m ∧ e = .returned (.agg #[.int .i64 (m : Int), .slice A m c]) ∧ Fr w' w.heap.size w'.heap.size (.slice A m c) xs ∧ tourB ⟨(m : Int), xs⟩ = true ∧ Below w.heap.size w w' := by
  refine (l02OfZ (m : Int) M w (by omega) (by omega) hm0 hm).mono ?_
  rintro e w' ⟨A, c, xs, _, hl, rfl, hf, ht, hb⟩
  obtain rfl : xs.length = m := by omega
  exact ⟨A, c, xs, rfl, rfl, hf, ht, hb⟩
theorem l02DrawN (p : Nat) (v : Value) (n : Nat) (m : Int) (w : World) (hc : Cur w p v n) (hn : n ≤ 1048576) (h1 : 1 ≤ m) (h8 : m ≤ 8) :
    Calls Tryz.prog 42 #[.pointer (some ⟨p, 0, none⟩), .int .i64 m] w fun e w' => ∃ (m : Nat) (A : Option Addr) (c : Nat) (xs : List Int), xs.length = m ∧ (1 ≤ m ∧ m ≤ 8) ∧ e = .returned (.agg #[.int .i64 (m : Int), .slice A m c]) ∧ Fr w' w.heap.size w'.heap.size (.slice A m c) xs ∧ tourB ⟨(m : Int), xs⟩ = true ∧ Cur w' p v n ∧ Keep p (p + 1) w w' := by
  refine (l02Draw_any p v n m w hc hn h1 h8).mono ?_
  rintro e w' ⟨A, c, xs, hx, rfl, hf, ht, hc', hk⟩
  obtain ⟨t1, _⟩ := tourB_t ht
  exact ⟨xs.length, A, c, xs, rfl, ⟨by simp only at t1; omega, hx⟩, rfl, hf, ht, hc', hk⟩
theorem l02RenameN (m : Nat) (A : Option Addr) (c : Nat) (xs : List Int) (u : Value) (ns : List Int) (w : World) (hl : xs.length = m) (hs : InI w (.slice A m c) xs) (hok : tourB ⟨(m : Int), xs⟩ = true) (hu : InI w u ns) (hm : Nm ns m) :
    Calls Tryz.prog 44 #[.agg #[.int .i64 (m : Int), .slice A m c], u] w fun e w' => ∃ A' c' ys, ys.length = m ∧ e = .returned (.agg #[.int .i64 (m : Int), .slice A' m c']) ∧ Fr w' w.heap.size w'.heap.size (.slice A' m c') ys ∧ tourB ⟨(m : Int), ys⟩ = true ∧ Below w.heap.size w w' := by
  subst hl
  refine (l02Rename_any _ u ⟨(xs.length : Int), xs⟩ ns w ⟨_, rfl, hs⟩ hok hu hm).mono ?_
  rintro e w' ⟨A', c', ys, rfl, hf, ht, hy, hb⟩
  exact ⟨A', c', ys, hy, rfl, hf, ht, hb⟩
theorem l02FlipN (m : Nat) (A : Option Addr) (c : Nat) (xs : List Int) (a b : Nat) (w : World) (hl : xs.length = m) (hs : InI w (.slice A m c) xs) (hok : tourB ⟨(m : Int), xs⟩ = true) (ha : a < m) (hb : b < m) (hab : a ≠ b) :
    Calls Tryz.prog 48 #[.agg #[.int .i64 (m : Int), .slice A m c], .int .i64 (a : Int), .int .i64 (b : Int)] w fun e w' => ∃ A' c' ys, ys.length = m ∧ e = .returned (.agg #[.int .i64 (m : Int), .slice A' m c']) ∧ Fr w' w.heap.size w'.heap.size (.slice A' m c') ys ∧ tourB ⟨(m : Int), ys⟩ = true ∧ Below w.heap.size w w' := by
  subst hl
  refine (l02Flip_any _ ⟨(xs.length : Int), xs⟩ a b w ⟨_, rfl, hs⟩ hok ha hb hab).mono ?_
  rintro e w' ⟨A', c', rfl, hf, hb'⟩
  exact ⟨A', c', flipL xs a b, flipL_len xs a b, rfl, hf, flip_ok hok ha hb hab, hb'⟩

/-- The tour that is drawn lies in the box b; the result's box at the head of the frame, the cursor behind it. -/
structure DrD (w wr : World) (p : Nat) (v : Value) (n b m : Nat) (A : Option Addr) (c : Nat) (xs : List Int) : Prop where
  dr : DrT w wr p v n
  b0 : wr.cell? ⟨b, 0, none⟩ = some (.int .i64 (m : Int))
  b1 : wr.cell? ⟨b, 1, none⟩ = some (.slice A m c)
  f0 : wr.frozen? ⟨b, 0, none⟩ = false
  f1 : wr.frozen? ⟨b, 1, none⟩ = false
  lo : w.heap.size + 1 ≤ b
  hi : b < wr.heap.size
  fr : Fr wr (w.heap.size + 1) wr.heap.size (.slice A m c) xs
  ne : ∀ g, (Value.slice A m c).ownBlock = some g → g ≠ b
  len : xs.length = m
  ok : tourB ⟨(m : Int), xs⟩ = true
theorem DrD.draw {w wr w2 : World} {p n b m c : Nat} {v : Value} {A : Option Addr} {xs : List Int} (h : DrD w wr p v n b m A c xs) (hp : p < w.heap.size) (hc : Cur w2 p v n) (hk : Keep p (p + 1) wr w2) : DrD w w2 p v n b m A c xs := by
  have hlo := h.lo
  exact ⟨h.dr.draw hp hc hk, (hk.cell (p := ⟨b, 0, none⟩) h.hi (.inr (by show p + 1 ≤ b; omega))).trans h.b0, (hk.cell (p := ⟨b, 1, none⟩) h.hi (.inr (by show p + 1 ≤ b; omega))).trans h.b1,
    (hk.frozen (p := ⟨b, 0, none⟩) h.hi (.inr (by show p + 1 ≤ b; omega))).trans h.f0, (hk.frozen (p := ⟨b, 1, none⟩) h.hi (.inr (by show p + 1 ≤ b; omega))).trans h.f1, h.lo, Nat.lt_of_lt_of_le h.hi hk.size,
    (h.fr.keep hk (.inr (by omega))).wide (Nat.le_refl _) hk.size (Nat.le_refl _), h.ne, h.len, h.ok⟩
theorem DrD.below {w wr w2 : World} {p n b m c : Nat} {v : Value} {A : Option Addr} {xs : List Int} (h : DrD w wr p v n b m A c xs) (hc0 : Cur w p v n) (hb : Below wr.heap.size wr w2) : DrD w w2 p v n b m A c xs :=
  ⟨h.dr.below hc0 hb, (hb.cell (p := ⟨b, 0, none⟩) h.hi).trans h.b0, (hb.cell (p := ⟨b, 1, none⟩) h.hi).trans h.b1, (hb.frozen (p := ⟨b, 0, none⟩) h.hi).trans h.f0, (hb.frozen (p := ⟨b, 1, none⟩) h.hi).trans h.f1, h.lo, Nat.lt_of_lt_of_le h.hi hb.size,
    (h.fr.grow hb).wide (Nat.le_refl _) hb.size (Nat.le_refl _), h.ne, h.len, h.ok⟩
theorem DrD.drew {w wr : World} {p n b m c : Nat} {v : Value} {A : Option Addr} {xs : List Int} (h : DrD w wr p v n b m A c xs) (hc0 : Cur w p v n) : DrD w wr.drew p v n b m A c xs :=
  h.below hc0 (below_drewL (Below.refl _ _))
/-- Another tour of the same size is stored. -/
theorem DrD.put {w wr : World} {p n b m c c' lo : Nat} {v : Value} {A A' : Option Addr} {xs ys : List Int} (h : DrD w wr p v n b m A c xs) (hc0 : Cur w p v n) (hf : Fr wr lo wr.heap.size (.slice A' m c') ys) (hlo : b < lo) (hl : ys.length = m) (hok : tourB ⟨(m : Int), ys⟩ = true) :
    DrD w ((wr.setCell ⟨b, 0, none⟩ (.int .i64 (m : Int))).setCell ⟨b, 1, none⟩ (.slice A' m c')) p v n b m A' c' ys := by
  have KP : Keep b (b + 1) wr ((wr.setCell ⟨b, 0, none⟩ (.int .i64 (m : Int))).setCell ⟨b, 1, none⟩ (.slice A' m c')) :=
    ((Keep.refl _ _ _).setCell (p := ⟨b, 0, none⟩) (Nat.le_refl _) (Nat.lt_succ_self _) _).setCell (p := ⟨b, 1, none⟩) (Nat.le_refl _) (Nat.lt_succ_self _) _
  have hlo' := h.lo
  have hs := h.dr.sz
  have hz : w.heap.size < wr.heap.size := by omega
  have BB : Below (w.heap.size + 1) wr ((wr.setCell ⟨b, 0, none⟩ (.int .i64 (m : Int))).setCell ⟨b, 1, none⟩ (.slice A' m c')) := KP.below hlo' hs
  refine ⟨⟨hc0.far h.dr.cur (lo := w.heap.size + 1) (by omega) BB, h.dr.keep.far BB (by omega), (BB.cell (p := ⟨w.heap.size, 0, none⟩) (Nat.lt_succ_self _)).trans h.dr.z0, (BB.cell (p := ⟨w.heap.size, 1, none⟩) (Nat.lt_succ_self _)).trans h.dr.z1, (BB.frozen (p := ⟨w.heap.size, 0, none⟩) (Nat.lt_succ_self _)).trans h.dr.f0, (BB.frozen (p := ⟨w.heap.size, 1, none⟩) (Nat.lt_succ_self _)).trans h.dr.f1, Nat.le_trans hs KP.size⟩,
    by simp [go_sem, h.b0], by simp [go_sem, h.b1], by simp [go_sem, h.f0], by simp [go_sem, h.f1], h.lo, Nat.lt_of_lt_of_le h.hi KP.size, (hf.keep KP (.inr hlo)).wide (by omega) KP.size (Nat.le_refl _), fun g hg => ?_, hl, hok⟩
  have := (hf.1.lt g hg).1
  omega
theorem DrD.start {w w1 : World} {p n m c : Nat} {v : Value} {A : Option Addr} {xs : List Int} (hc0 : Cur w p v n) (hc : Cur w1 p v n) (hp : p < w.heap.size) (hk : Keep p (p + 1) (w.alloc (.cells #[.int .i64 0, .slice none 0 0] 25)) w1)
    (hf : Fr w1 (w.alloc (.cells #[.int .i64 0, .slice none 0 0] 25)).heap.size w1.heap.size (.slice A m c) xs) (hl : xs.length = m) (hok : tourB ⟨(m : Int), xs⟩ = true) :
    DrD w (w1.alloc (.cells #[.int .i64 (m : Int), .slice A m c] 25)) p v n w1.heap.size m A c xs := by
  have h1 : DrT w w1 p v n := (DrT.start hc0).draw hp hc hk
  have hb : Below w1.heap.size w1 (w1.alloc (.cells #[.int .i64 (m : Int), .slice A m c] 25)) := (Below.refl _ _).alloc (Nat.le_refl _) _
  have hs := h1.sz
  refine ⟨h1.below hc0 hb, by simp, by simp, ?_, ?_, by omega, by simp, (hf.grow hb).wide (by simp) (by simp) (Nat.le_refl _), fun g hg => ?_, hl, hok⟩
  · rw [frozen?_alloc_cells]; simp [World.frozen?]
  · rw [frozen?_alloc_cells]; simp [World.frozen?]
  · have := (hf.1.lt g hg).2
    omega

theorem flipTo {a m : Nat} {y : Int} (ha : a < m) (hm : 1 < m) (hy : 0 ≤ y ∧ y < (m : Int) - 1) : ∃ B : Nat, Int.tmod ((a : Int) + 1 + y) (m : Int) = (B : Int) ∧ B < m ∧ a ≠ B := by
  obtain ⟨z, rfl⟩ := Int.eq_ofNat_of_zero_le hy.1
  refine ⟨(a + 1 + z) % m, ?_, Nat.mod_lt _ (by omega), ?_⟩
  · rw [Int.tmod_eq_emod_of_nonneg (by omega), show (a : Int) + 1 + (z : Int) = ((a + 1 + z : Nat) : Int) from by omega, Int.natCast_emod]
  · rcases Nat.lt_or_ge (a + 1 + z) m with h | h
    · rw [Nat.mod_eq_of_lt h]; omega
    · rw [Nat.mod_eq_sub_mod h, Nat.mod_eq_of_lt (by omega)]; omega
set_option maxHeartbeats 4000000 in
set_option maxRecDepth 100000 in
theorem l05Draw_any (p : Nat) (v : Value) (n : Nat) (most : Int) (w : World) (hc : Cur w p v n) (hn : n ≤ 1048576) (h1 : 1 ≤ most) (h8 : most ≤ 8) :
    Calls Tryz.prog 22 #[.pointer (some ⟨p, 0, none⟩), .int .i64 most] w fun e w' => ∃ (m : Nat) (A : Option Addr) (c : Nat) (xs : List Int), xs.length = m ∧ e = .returned (.agg #[.int .i64 (m : Int), .slice A m c]) ∧ Fr w' w.heap.size w'.heap.size (.slice A m c) xs ∧ tourB ⟨(m : Int), xs⟩ = true ∧ Cur w' p v n ∧ Keep p (p + 1) w w' := by
  have HC := Lib.hid hc
  have hp := hc.lt
  clear hc
  go_enter Tryz.func22, Tryz.ntmps22
  go_wp2_with fail
  refine (l02DrawN p v n most _ (DrT.start HC.out).cur hn h1 h8).mono ?_
  rintro e w1 ⟨m, A, c, xs, hl, hm, rfl, hf, ht, hc1, hk1⟩
  have H1 := Lib.hid (DrD.start HC.out hc1 hp hk1 hf hl ht)
  clear hl hf ht hc1 hk1
  go_wp2_with fail
  refine (l01Once_any p v n 3 _ H1.out.dr.cur hn (by omega) (by omega)).mono ?_
  rintro e w2 ⟨c2, rfl, hc2, hk2⟩
  have H2 := Lib.hid (H1.out.draw hp hc2 hk2)
  clear hc2 hk2 H1
  obtain ⟨b, hb⟩ : ∃ b, w1.heap.size = b := ⟨_, rfl⟩
  rw [hb] at H2 ⊢
  clear hb
  cases c2
  · obtain ⟨y0, y1⟩ := And.intro H2.out.b0 H2.out.b1
    obtain ⟨z0, z1, g0, g1⟩ := And.intro H2.out.dr.z0 (And.intro H2.out.dr.z1 (And.intro H2.out.dr.f0 H2.out.dr.f1))
    go_wp2
    refine bodyPost_ret (v := .agg #[.int .i64 (m : Int), .slice A m c]) (by simp [results, Tryz.results22, go_sem, z0, z1]) rfl ⟨m, A, c, xs, H2.out.len, rfl, ?_⟩
    obtain ⟨r1, r2, r3⟩ := H2.out.dr.ret (a := .int .i64 (m : Int)) (b := .slice A m c) HC.out H2.out.fr (Nat.le_refl _)
    exact ⟨r1, H2.out.ok, r2, r3⟩
  obtain ⟨y0, y1⟩ := And.intro H2.out.b0 H2.out.b1
  go_wp2
  have H2d := Lib.hid (H2.out.drew HC.out)
  clear H2
  go_region_held3 (fun W => W.cell? ⟨b, 0, none⟩ = some (.int .i64 (m : Int))) (first | assumption | (simp [go_sem, *]; done)) (first
    | (go_at_call 45; refine (l02OfN m 268435455 _ hm.1 hm.2 (by omega) (by omega)).mono ?_; rintro e w3 ⟨A3, c3, xs3, hl3, rfl, hf3, ht3, hb3⟩; have H3 : Hid (DrD w w3 p v n b m A c xs ∧ Fr w3 (p + 1) w3.heap.size (.slice A3 m c3) xs3) := ⟨H2d.out.below HC.out hb3, hf3.wide (by have := H2d.out.dr.sz; omega) (Nat.le_refl _) (Nat.le_refl _)⟩; have H3t : Hid (tourB ⟨(m : Int), xs3⟩ = true ∧ xs3.length = m) := ⟨ht3, hl3⟩; have q3 := H3.out.1.b0; clear hl3 hf3 ht3 hb3 H2d)
    | (go_at_call 46; refine (l02Order_any p v n m _ H3.out.1.dr.cur hn hm.2).mono ?_; rintro e w4 ⟨u4, ns, rfl, hN, hu4, hc4, hk4⟩; have H4 : Hid (DrD w w4 p v n b m A c xs ∧ InI w4 (.slice A3 m c3) xs3 ∧ InI w4 u4 ns ∧ Nm ns m) := ⟨H3.out.1.draw hp hc4 hk4, (H3.out.2.keep hk4 (.inr (Nat.le_refl _))).in_, hu4, hN⟩; have q4 := H4.out.1.b0; clear hN hu4 hc4 hk4 H3)
    | (go_at_call 44; refine (l02RenameN m A3 c3 xs3 u4 ns _ H3t.out.2 H4.out.2.1 H3t.out.1 H4.out.2.2.1 H4.out.2.2.2).mono ?_; rintro e w5 ⟨A5, c5, xs5, hl5, rfl, hf5, ht5, hb5⟩; have H5 : Hid (DrD w w5 p v n b m A c xs ∧ Fr w5 w4.heap.size w5.heap.size (.slice A5 m c5) xs5 ∧ b < w4.heap.size ∧ xs5.length = m ∧ tourB ⟨(m : Int), xs5⟩ = true) := ⟨H4.out.1.below HC.out hb5, hf5, H4.out.1.hi, hl5, ht5⟩; have q5 := H5.out.1.b0; have q6 := H5.out.1.b1; have q7 := H5.out.1.f0; have q8 := H5.out.1.f1; clear hl5 hf5 ht5 hb5 H4))
  have H6 := Lib.hid (H5.out.1.put HC.out H5.out.2.1 H5.out.2.2.1 H5.out.2.2.2.1 H5.out.2.2.2.2)
  clear q3 q4 q5 q6 q7 q8 H3t H5 y0 y1
  generalize (w5.setCell ⟨b, 0, none⟩ (.int .i64 (m : Int))).setCell ⟨b, 1, none⟩ (.slice A5 m c5) = w6 at *
  go_wp2_with fail
  refine (l01Below_any p v n 3 _ H6.out.dr.cur hn (by omega) (by omega)).mono ?_
  rintro e w7 ⟨k, hk, rfl, hc7, hk7⟩
  have H7 := Lib.hid (H6.out.draw hp hc7 hk7)
  clear hc7 hk7 H6
  obtain ⟨k, rfl⟩ := Int.eq_ofNat_of_zero_le hk.1
  have hk2 : k ≤ 2 := by omega
  clear hk
  go_wp2_with fail
  go_loopw [6] (fun s wr => ∃ (k : Nat) (A : Option Addr) (c : Nat) (xs : List Int), k ≤ 2 ∧ s = .int .i64 (k : Int) ∧ Hid (DrD w wr p v n b m A c xs)) (fun s _ => (intOf s).toNat)
  case atStart => exact ⟨k, _, _, _, hk2, rfl, H7.out⟩
  case round =>
    clear H7 hk2
    obtain ⟨k, A, c, xs, hk2, rfl, HR⟩ := hrel
    obtain ⟨y0, y1⟩ := And.intro HR.out.b0 HR.out.b1
    by_cases hk0 : 0 < k ∧ 1 < m
    case neg =>
      obtain ⟨z0, z1, g0, g1⟩ := And.intro HR.out.dr.z0 (And.intro HR.out.dr.z1 (And.intro HR.out.dr.f0 HR.out.dr.f1))
      by_cases hk1 : 0 < k
      all_goals
        go_wp2
        refine bodyPost_ret (v := .agg #[.int .i64 (m : Int), .slice A m c]) (by simp [results, Tryz.results22, go_sem, z0, z1]) rfl ⟨m, A, c, xs, HR.out.len, rfl, ?_⟩
        obtain ⟨r1, r2, r3⟩ := HR.out.dr.ret (a := .int .i64 (m : Int)) (b := .slice A m c) HC.out HR.out.fr (Nat.le_refl _)
        exact ⟨r1, HR.out.ok, r2, r3⟩
    obtain ⟨hk0, hm1⟩ := hk0
    go_wp2_with ((go_at_call 47; refine (l01Below_any p v n (m : Int) _ HR.out.dr.cur hn (by omega) (by omega)).mono ?_; rintro e w8 ⟨x, hx, rfl, hc8, hk8⟩; have H8 := Lib.hid (HR.out.draw hp hc8 hk8); clear hc8 hk8 y0 y1 HR; obtain ⟨a, rfl⟩ := Int.eq_ofNat_of_zero_le hx.1; have ha : a < m := (by omega); clear hx))
    obtain ⟨y0, y1⟩ := And.intro H8.out.b0 H8.out.b1
    have hm0 : ¬ m = 0 := by omega
    have e1 : IntKind.i64.wrap ((a : Int) + 1) = (a : Int) + 1 := by rw [IntKind.wrap_i64]; omega
    have e2 : IntKind.i64.wrap ((m : Int) - 1) = (m : Int) - 1 := by rw [IntKind.wrap_i64]; omega
    have H8d := Lib.hid (H8.out.drew HC.out)
    clear H8
    -- region 8
    refine wp_region_held_drew (S := fun W => W.cell? ⟨b, 0, none⟩ = some (.int .i64 (m : Int))) (by kernel_rfl) H8d.out.b0 (fun hHeld => ?_)
    refine wpAnyH_take (i := 1) (v := ?v1) rfl (by kernel_rfl) (by kernel_rfl) (by kernel_rfl) (fun _ _ _ h => h) (Or.inl ⟨by rfl, ?hy1⟩) (by assumption) ?_
    case hy1 => (intro w hSw; (try dsimp only at hSw); go_simp <;> (try with_reducible rfl))
    try simp only [Act.put, List.setIfInBounds_toArray, List.set_cons_zero, List.set_cons_succ]
    refine wpAnyH_take (i := 2) (v := ?v2) rfl (by kernel_rfl) (by kernel_rfl) (by kernel_rfl) (fun _ _ _ h => h) (Or.inl ⟨by rfl, ?hy2⟩) (by assumption) ?_
    case hy2 => (intro w hSw; (try dsimp only at hSw); go_simp <;> (try with_reducible rfl))
    try simp only [Act.put, List.setIfInBounds_toArray, List.set_cons_zero, List.set_cons_succ]
    refine wpAnyH_take (i := 3) (v := ?v3) rfl (by kernel_rfl) (by kernel_rfl) (by kernel_rfl) (fun _ _ _ h => h) (Or.inl ⟨by rfl, ?hy3⟩) (by assumption) ?_
    case hy3 => (intro w hSw; (try dsimp only at hSw); go_simp <;> (try with_reducible rfl))
    try simp only [Act.put, List.setIfInBounds_toArray, List.set_cons_zero, List.set_cons_succ]
    refine wpAnyH_take (i := 4) (v := ?v4) rfl (by kernel_rfl) (by kernel_rfl) (by kernel_rfl) (fun _ _ _ h => h) (Or.inl ⟨by rfl, ?hy4⟩) (by assumption) ?_
    case hy4 => (intro w hSw; (try dsimp only at hSw); go_simp <;> (try with_reducible rfl))
    try simp only [Act.put, List.setIfInBounds_toArray, List.set_cons_zero, List.set_cons_succ]
    refine wpAnyH_take (i := 5) (v := ?v5) rfl (by kernel_rfl) (by kernel_rfl) (by kernel_rfl) (fun _ _ _ h => h) (Or.inl ⟨by rfl, ?hy5⟩) (by assumption) ?_
    case hy5 => (intro w hSw; (try dsimp only at hSw); go_simp <;> (try with_reducible rfl))
    try simp only [Act.put, List.setIfInBounds_toArray, List.set_cons_zero, List.set_cons_succ]
    refine wpAnyH_take (i := 6) (v := ?v6) rfl (by kernel_rfl) (by kernel_rfl) (by kernel_rfl) (fun _ _ _ h => h) (Or.inl ⟨by rfl, ?hy6⟩) (by assumption) ?_
    case hy6 => (intro w hSw; (try dsimp only at hSw); go_simp <;> (try with_reducible rfl))
    try simp only [Act.put, List.setIfInBounds_toArray, List.set_cons_zero, List.set_cons_succ]
    refine wpAnyH_take (i := 7) (v := ?v7) rfl (by kernel_rfl) (by kernel_rfl) (by kernel_rfl) (fun _ _ _ h => h) (Or.inl ⟨by rfl, ?hy7⟩) (by assumption) ?_
    case hy7 => (intro w hSw; (try dsimp only at hSw); go_simp <;> (try with_reducible rfl))
    try simp only [Act.put, List.setIfInBounds_toArray, List.set_cons_zero, List.set_cons_succ]
    refine wpAnyH_take (i := 10) (v := ?v8) rfl (by kernel_rfl) (by kernel_rfl) (by kernel_rfl) (fun _ _ _ h => h) (Or.inl ⟨by rfl, ?hy8⟩) (by assumption) ?_
    case hy8 => (intro w hSw; (try dsimp only at hSw); go_simp <;> (try with_reducible rfl))
    try simp only [Act.put, List.setIfInBounds_toArray, List.set_cons_zero, List.set_cons_succ]
    refine wpAnyH_take (i := 11) (v := ?v9) rfl (by kernel_rfl) (by kernel_rfl) (by kernel_rfl) (fun _ _ _ h => h) (Or.inl ⟨by rfl, ?hy9⟩) (by assumption) ?_
    case hy9 => (intro w hSw; (try dsimp only at hSw); go_simp <;> (try with_reducible rfl))
    try simp only [Act.put, List.setIfInBounds_toArray, List.set_cons_zero, List.set_cons_succ]
    refine wpAnyH_ready (rs := [0, 8]) (by kernel_rfl) (by simp) ?_
    refine AllReadyH.cons rfl (fun K hK => ?_) (AllReadyH.cons rfl (fun K hK => ?_) AllReadyH.nil)
    · go_simp
      refine hK.out _ _ H8d.out.b0 (fun hHeld => ?_)
      clear hK K
      try simp only [Act.put, List.setIfInBounds_toArray, List.set_cons_zero, List.set_cons_succ]
      refine wpAnyH_ready (rs := [8]) (by kernel_rfl) (by simp) ?_
      refine AllReadyH.cons rfl (fun K hK => ?_) AllReadyH.nil
      go_simp
      go_at_call 47
      refine (l01Below_any p v n ((m : Int) - 1) _ H8d.out.dr.cur hn (by omega) (by omega)).mono ?_
      rintro e w9 ⟨y, hy, rfl, hc9, hk9⟩
      have H9 := Lib.hid (H8d.out.draw hp hc9 hk9)
      clear hc9 hk9 H8d
      obtain ⟨B, hB, hBm, haB⟩ := flipTo ha hm1 hy
      have e3 : IntKind.i64.wrap ((a : Int) + 1 + y) = (a : Int) + 1 + y := by rw [IntKind.wrap_i64]; omega
      clear hy
      go_wp2_with fail
      refine hK.out _ _ H9.out.b0 (fun hHeld => ?_)
      clear hK K
      try simp only [Act.put, List.setIfInBounds_toArray, List.set_cons_zero, List.set_cons_succ]
      refine wpAnyH_take (i := 9) (v := ?v10) rfl (by kernel_rfl) (by kernel_rfl) (by kernel_rfl) (fun _ _ _ h => h) (Or.inl ⟨by rfl, ?hy10⟩) (by assumption) ?_
      case hy10 => (intro w hSw; (try dsimp only at hSw); go_simp <;> (try with_reducible rfl))
      try simp only [Act.put, List.setIfInBounds_toArray, List.set_cons_zero, List.set_cons_succ]
      refine wpAnyH_take (i := 12) (v := ?v11) rfl (by kernel_rfl) (by kernel_rfl) (by kernel_rfl) (fun _ _ _ h => h) (Or.inl ⟨by rfl, ?hy11⟩) (by assumption) ?_
      case hy11 => (intro w hSw; (try dsimp only at hSw); go_simp <;> (try with_reducible rfl))
      try simp only [Act.put, List.setIfInBounds_toArray, List.set_cons_zero, List.set_cons_succ]
      refine wpAnyH_ready (rs := [13]) (by kernel_rfl) (by simp) ?_
      refine AllReadyH.cons rfl (fun K hK => ?_) AllReadyH.nil
      go_simp
      go_at_call 48
      refine (l02FlipN m A c xs a B _ H9.out.len H9.out.fr.in_ H9.out.ok ha hBm haB).mono ?_
      rintro e w10 ⟨A5, c5, xs5, hl5, rfl, hf5, ht5, hb5⟩
      have H10 : Hid (DrD w w10 p v n b m A c xs ∧ Fr w10 w9.heap.size w10.heap.size (.slice A5 m c5) xs5 ∧ b < w9.heap.size ∧ xs5.length = m ∧ tourB ⟨(m : Int), xs5⟩ = true) := ⟨H9.out.below HC.out hb5, hf5, H9.out.hi, hl5, ht5⟩
      clear hl5 hf5 ht5 hb5 H9
      obtain ⟨q0, q1, q2, q3⟩ := And.intro H10.out.1.b0 (And.intro H10.out.1.b1 (And.intro H10.out.1.f0 H10.out.1.f1))
      go_wp2_with fail
      refine hK.out _ _ H10.out.1.b0 (fun hHeld => ?_)
      clear hK K
      try simp only [Act.put, List.setIfInBounds_toArray, List.set_cons_zero, List.set_cons_succ]
      refine wpAnyH_ready (rs := [14]) (by kernel_rfl) (by simp) ?_
      refine AllReadyH.cons rfl (fun K hK => ?_) AllReadyH.nil
      go_simp
      refine hK.out _ _ (by simp [go_sem, q0]) (fun hHeld => ?_)
      clear hK K
      try simp only [Act.put, List.setIfInBounds_toArray, List.set_cons_zero, List.set_cons_succ]
      refine wpAnyH_done (by kernel_rfl) ?_ _
      have H11 := Lib.hid (H10.out.1.put HC.out H10.out.2.1 H10.out.2.2.1 H10.out.2.2.2.1 H10.out.2.2.2.2)
      clear q0 q1 q2 q3 H10 e1 e2 e3 hB
      go_wp2
      go_roundw
      case rel => exact ⟨k - 1, A5, c5, xs5, by omega, by go_num, H11.out⟩
      case measure => simp [intOf]; omega
    · go_simp
      go_at_call 47
      refine (l01Below_any p v n ((m : Int) - 1) _ H8d.out.dr.cur hn (by omega) (by omega)).mono ?_
      rintro e w9 ⟨y, hy, rfl, hc9, hk9⟩
      have H9 := Lib.hid (H8d.out.draw hp hc9 hk9)
      clear hc9 hk9 H8d
      obtain ⟨B, hB, hBm, haB⟩ := flipTo ha hm1 hy
      have e3 : IntKind.i64.wrap ((a : Int) + 1 + y) = (a : Int) + 1 + y := by rw [IntKind.wrap_i64]; omega
      clear hy
      go_wp2_with fail
      refine hK.out _ _ H9.out.b0 (fun hHeld => ?_)
      clear hK K
      try simp only [Act.put, List.setIfInBounds_toArray, List.set_cons_zero, List.set_cons_succ]
      refine wpAnyH_take (i := 9) (v := ?v12) rfl (by kernel_rfl) (by kernel_rfl) (by kernel_rfl) (fun _ _ _ h => h) (Or.inl ⟨by rfl, ?hy12⟩) (by assumption) ?_
      case hy12 => (intro w hSw; (try dsimp only at hSw); go_simp <;> (try with_reducible rfl))
      try simp only [Act.put, List.setIfInBounds_toArray, List.set_cons_zero, List.set_cons_succ]
      refine wpAnyH_take (i := 12) (v := ?v13) rfl (by kernel_rfl) (by kernel_rfl) (by kernel_rfl) (fun _ _ _ h => h) (Or.inl ⟨by rfl, ?hy13⟩) (by assumption) ?_
      case hy13 => (intro w hSw; (try dsimp only at hSw); go_simp <;> (try with_reducible rfl))
      try simp only [Act.put, List.setIfInBounds_toArray, List.set_cons_zero, List.set_cons_succ]
      refine wpAnyH_ready (rs := [0]) (by kernel_rfl) (by simp) ?_
      refine AllReadyH.cons rfl (fun K hK => ?_) AllReadyH.nil
      obtain ⟨z0, z1⟩ := And.intro H9.out.b0 H9.out.b1
      go_simp
      refine hK.out _ _ H9.out.b0 (fun hHeld => ?_)
      clear hK K
      try simp only [Act.put, List.setIfInBounds_toArray, List.set_cons_zero, List.set_cons_succ]
      refine wpAnyH_ready (rs := [13]) (by kernel_rfl) (by simp) ?_
      refine AllReadyH.cons rfl (fun K hK => ?_) AllReadyH.nil
      go_simp
      go_at_call 48
      refine (l02FlipN m A c xs a B _ H9.out.len H9.out.fr.in_ H9.out.ok ha hBm haB).mono ?_
      rintro e w10 ⟨A5, c5, xs5, hl5, rfl, hf5, ht5, hb5⟩
      have H10 : Hid (DrD w w10 p v n b m A c xs ∧ Fr w10 w9.heap.size w10.heap.size (.slice A5 m c5) xs5 ∧ b < w9.heap.size ∧ xs5.length = m ∧ tourB ⟨(m : Int), xs5⟩ = true) := ⟨H9.out.below HC.out hb5, hf5, H9.out.hi, hl5, ht5⟩
      clear hl5 hf5 ht5 hb5 H9
      obtain ⟨q0, q1, q2, q3⟩ := And.intro H10.out.1.b0 (And.intro H10.out.1.b1 (And.intro H10.out.1.f0 H10.out.1.f1))
      go_wp2_with fail
      refine hK.out _ _ H10.out.1.b0 (fun hHeld => ?_)
      clear hK K
      try simp only [Act.put, List.setIfInBounds_toArray, List.set_cons_zero, List.set_cons_succ]
      refine wpAnyH_ready (rs := [14]) (by kernel_rfl) (by simp) ?_
      refine AllReadyH.cons rfl (fun K hK => ?_) AllReadyH.nil
      go_simp
      refine hK.out _ _ (by simp [go_sem, q0]) (fun hHeld => ?_)
      clear hK K
      try simp only [Act.put, List.setIfInBounds_toArray, List.set_cons_zero, List.set_cons_succ]
      refine wpAnyH_done (by kernel_rfl) ?_ _
      have H11 := Lib.hid (H10.out.1.put HC.out H10.out.2.1 H10.out.2.2.1 H10.out.2.2.2.1 H10.out.2.2.2.2)
      clear q0 q1 q2 q3 H10 e1 e2 e3 hB
      go_wp2
      go_roundw
      case rel => exact ⟨k - 1, A5, c5, xs5, by omega, by go_num, H11.out⟩
      case measure => simp [intOf]; omega
    -- end of region 8
end Go.Proofs.YtofpaekokmkhgaaGreatDoor
