/- Triangles of a tour: whether there are any; transitive sets. -/
import Derived.Test.YtoppjohbmalhnaaDoorPts
import Derived.Test.YtoppjohbmalhnaaDoorCy
namespace Go.Proofs.YtoppjohbmalhnaaDoor
open Go.ChangeShapes Go.WideShapes Go.ChangeAt Go.RowKit

/-- The rows so far: how many (n), and whether a triangle was met. -/
structure L4At (w wr : World) (x : TourV) (A : Option Addr) (c : Nat) (v : Value) (n : Nat) (B : Bool) (m : Nat) : Prop where
  own : ∃ vs, wr.ownsRow (w.heap.size + 1) 22 1 v n vs
  bx : Bx wr w.heap.size (.int .i64 (x.wins.length : Int)) (.slice A x.wins.length c)
  be : Below w.heap.size w wr
  sz : w.heap.size + 1 ≤ wr.heap.size
  iff : decide (0 < n) = B
  le : n ≤ m
theorem L4At.below {w wr w2 : World} {x : TourV} {A : Option Addr} {c n m : Nat} {v : Value} {B : Bool} (h : L4At w wr x A c v n B m) (hb : Below wr.heap.size wr w2) : L4At w w2 x A c v n B m := by
  obtain ⟨vs, ho⟩ := h.own
  refine ⟨⟨vs, ?_⟩, h.bx.below hb, h.be.trans (hb.mono h.be.size), Nat.le_trans h.sz hb.size, h.iff, h.le⟩
  exact ownsRow_keep (l2 := wr.heap.size) (h2 := wr.heap.size) ho (fun g hg => (ho.lt g hg).2) (Nat.le_refl _) (Keep.of_below hb (Nat.le_refl _)) (.inl (Nat.le_refl _))
theorem L4At.move {w wr : World} {x : TourV} {A : Option Addr} {c n m m2 : Nat} {v : Value} {B B2 : Bool} (h : L4At w wr x A c v n B m) (e : B2 = B) (hm : m ≤ m2) : L4At w wr x A c v n B2 m2 :=
  ⟨h.own, h.bx, h.be, h.sz, by rw [e]; exact h.iff, Nat.le_trans h.le hm⟩
theorem L4At.form {w wr : World} {x : TourV} {A : Option Addr} {c n m : Nat} {v : Value} {B : Bool} (h : L4At w wr x A c v n B m) : ∃ A' c', v = .slice A' n c' := by
  obtain ⟨vs, ho⟩ := h.own
  rcases ho.2 with ⟨rfl, hn⟩ | ⟨g, cap, cur, rfl, _⟩
  · exact ⟨none, 0, by rw [hn]⟩
  · exact ⟨_, _, rfl⟩
theorem l4Start {w : World} {x : TourV} {A : Option Addr} {c : Nat} : L4At w ((w.alloc (.cells #[.int .i64 (x.wins.length : Int), .slice A x.wins.length c] 27)).alloc (.cells #[] 22)) x A c (.slice (some ⟨w.heap.size + 1, 0, none⟩) 0 0) 0 false 0 := by
  have b1 : Below w.heap.size w (w.alloc (.cells #[.int .i64 (x.wins.length : Int), .slice A x.wins.length c] 27)) := (Below.refl _ w).alloc (Nat.le_refl _) _
  have z1 : (w.alloc (.cells #[.int .i64 (x.wins.length : Int), .slice A x.wins.length c] 27)).heap.size = w.heap.size + 1 := World.size_alloc _ _
  have x1 : Bx (w.alloc (.cells #[.int .i64 (x.wins.length : Int), .slice A x.wins.length c] 27)) w.heap.size (.int .i64 (x.wins.length : Int)) (.slice A x.wins.length c) := ⟨by simp, by simp, by simp⟩
  generalize w.alloc (.cells #[.int .i64 (x.wins.length : Int), .slice A x.wins.length c] 27) = W at *
  have b2 : Below W.heap.size W (W.alloc (.cells #[] 22)) := (Below.refl _ W).alloc (Nat.le_refl _) _
  have h := World.ownsRow_lit (base := w.heap.size + 1) (e := 22) (size := 1) W #[] 0 (by omega) (by unfold maxLen; omega) rfl
  rw [z1] at h
  exact ⟨⟨[], h⟩, x1.below b2, b1.trans (b2.mono (by omega)), by rw [World.size_alloc]; omega, rfl, Nat.le_refl _⟩
theorem l4Push {w W w2 : World} {x : TourV} {A : Option Addr} {c n m m2 : Nat} {v v2 : Value} {B B2 : Bool} {o : Obj} {vs : List Value} (h : L4At w W x A c v n B m) (hown : w2.ownsRow (w.heap.size + 1) 22 1 v2 (n + 1) vs)
    (hb : ∀ D, D ≤ w.heap.size + 1 → D ≤ (W.alloc o).heap.size → Below D (W.alloc o) w2) (e : B2 = true) (hm : n + 1 ≤ m2) : L4At w w2 x A c v2 (n + 1) B2 m2 := by
  have hz := h.sz
  have b1 : Below W.heap.size W (W.alloc o) := (Below.refl _ W).alloc (Nat.le_refl _) _
  have b2 := hb (w.heap.size + 1) (Nat.le_refl _) (by rw [World.size_alloc]; omega)
  have b3 : Below (w.heap.size + 1) W w2 := (b1.mono hz).trans b2
  exact ⟨⟨vs, hown⟩, h.bx.under b3 (Nat.lt_succ_self _), h.be.trans (b3.mono (Nat.le_succ _)), Nat.le_trans hz b3.size, by rw [e]; exact decide_eq_true (Nat.succ_pos _), hm⟩
set_option maxHeartbeats 4000000 in
set_option maxRecDepth 100000 in
theorem l04All_any (v : Value) (x : TourV) (w : World) (hs : InT w v x) (hok : tourB x = true) :
    Calls Tryd.prog 29 #[v] w fun e w' => ∃ A n c, e = .returned (.slice A n c) ∧ decide (0 < n) = triB x ∧ Below w.heap.size w w' := by
  have HIT := Lib.hid hs
  obtain ⟨u, rfl, A, c, rfl, hc, hm, hsl⟩ := hs
  obtain ⟨t1, t2, t3, t4, _⟩ := tourB_t hok
  have hn8 : x.wins.length ≤ 8 := by omega
  have HSZ : Hid (x.size = (x.wins.length : Int)) := t3.symm
  have HBT : Hid (∀ V (p q : Nat), Below w.heap.size w V → p < x.wins.length → q < x.wins.length → Calls Tryd.prog 39 #[.agg #[.int .i64 x.size, .slice A x.wins.length c], .int .i64 (p : Int), .int .i64 (q : Int)] V fun e w' => e = .returned (.bool (bt x.wins p q)) ∧ Below V.heap.size V w') := fun V p q hV hp hq => specBeats_any _ x p q V (HIT.out.below hV) hn8 t4 hp (by omega)
  have H0 := Lib.hid (l4Start (w := w) (x := x) (A := A) (c := c))
  rw [HSZ.out] at HBT
  rw [HSZ.out]
  clear hsl hok t1 t2 t3 t4 hm
  go_enter Tryd.func29, Tryd.ntmps29
  go_wp2
  go_loopw [3, 4] (fun o i wr => ∃ (a n : Nat) (vv : Value), a ≤ x.wins.length ∧ i = .int .i64 a ∧ vv = o ∧ Hid (L4At w wr x A c vv n (triA x a) (a * 64))) (fun _ i _ => x.wins.length - (intOf i).toNat)
  case atStart => exact ⟨0, 0, _, Nat.zero_le _, rfl, rfl, H0.out.move rfl (Nat.le_refl _)⟩
  case round =>
    obtain ⟨a, n, vv, ha, rfl, rfl, HR⟩ := hrel
    obtain ⟨wo, rfl⟩ : ∃ W, W = wr := ⟨wr, rfl⟩
    clear H0
    obtain ⟨q0, q1, q2⟩ := id HR.out.bx
    by_cases hlt : a < x.wins.length
    case neg =>
      obtain rfl : a = x.wins.length := by omega
      obtain ⟨A', c', rfl⟩ := HR.out.form
      go_wp2
      go_ret
      exact ⟨_, _, _, rfl, HR.out.iff, HR.out.be⟩
    go_wp2
    clear q0 q1 q2
    go_loopw [3, 5] (fun o i wr => ∃ (b n : Nat) (vv : Value), a + 1 ≤ b ∧ b ≤ x.wins.length ∧ i = .int .i64 b ∧ vv = o ∧ Hid (L4At w wr x A c vv n (triA x a || triR x a b) (a * 64 + b * 8))) (fun _ i _ => x.wins.length - (intOf i).toNat)
    case atStart => exact ⟨a + 1, n, _, Nat.le_refl _, by omega, by go_num, rfl, HR.out.move (by rw [triR_start, Bool.or_false]) (by omega)⟩
    case round =>
      obtain ⟨b, n2, v2, hab, hb, rfl, rfl, HR2⟩ := hrel
      obtain ⟨w1, rfl⟩ : ∃ W, W = wr := ⟨wr, rfl⟩
      clear HR
      obtain ⟨q0, q1, q2⟩ := id HR2.out.bx
      by_cases hlt2 : b < x.wins.length
      case neg =>
        obtain rfl : b = x.wins.length := by omega
        have HN : Hid (L4At w w1 x A c v2 n2 (triA x (a + 1)) ((a + 1) * 64)) := HR2.out.move (triA_succ x a) (by omega)
        go_wp2
        clear q0 q1 q2
        go_roundw
        case rel => exact ⟨a + 1, n2, _, by omega, by go_num, rfl, HN.out⟩
        case measure => simp [intOf]; omega
      go_wp2
      clear q0 q1 q2
      go_loopw [3, 6] (fun o i wr => ∃ (d n : Nat) (vv : Value), a + 1 ≤ d ∧ d ≤ x.wins.length ∧ i = .int .i64 d ∧ vv = o ∧ Hid (L4At w wr x A c vv n ((triA x a || triR x a b) || triC x a b d) (a * 64 + b * 8 + d))) (fun _ i _ => x.wins.length - (intOf i).toNat)
      case atStart => exact ⟨a + 1, n2, _, Nat.le_refl _, by omega, by go_num, rfl, HR2.out.move (by rw [triC_start, Bool.or_false]) (by omega)⟩
      case round =>
        obtain ⟨d, n3, v3, had, hd, rfl, rfl, HR3⟩ := hrel
        clear HR2
        obtain ⟨q0, q1, q2⟩ := id HR3.out.bx
        by_cases hlt3 : d < x.wins.length
        case neg =>
          obtain rfl : d = x.wins.length := by omega
          have HN : Hid (L4At w wr x A c v3 n3 (triA x a || triR x a (b + 1)) (a * 64 + (b + 1) * 8)) := HR3.out.move (by rw [triR_succ, Bool.or_assoc]) (by omega)
          go_wp2
          clear q0 q1 q2
          go_roundw
          case rel => exact ⟨b + 1, n3, _, by omega, by omega, by go_num, rfl, HN.out⟩
          case measure => simp [intOf]; omega
        have HCY : Hid (cycB x a b d = (decide (d ≠ b) && (bt x.wins a b && (bt x.wins b d && bt x.wins d a)))) := by
          show _ = _
          rw [cycB, decide_eq_true (show a < b by omega), decide_eq_true (show a < d by omega), Bool.true_and, Bool.true_and]
        have HNO : Hid (∀ W, L4At w W x A c v3 n3 ((triA x a || triR x a b) || triC x a b d) (a * 64 + b * 8 + d) → cycB x a b d = false → L4At w W x A c v3 n3 ((triA x a || triR x a b) || triC x a b (d + 1)) (a * 64 + b * 8 + (d + 1))) := fun W h e => h.move (by rw [triC_succ, e, Bool.or_false]) (by omega)
        have hB1 := Lib.hid (fun V hV => HBT.out V a b hV hlt hlt2)
        have hB2 := Lib.hid (fun V hV => HBT.out V b d hV hlt2 hlt3)
        have hB3 := Lib.hid (fun V hV => HBT.out V d a hV hlt3 hlt)
        by_cases hdb : d = b
        · have HN : Hid (cycB x a b d = false) := by show _ = _; rw [HCY.out, decide_eq_false (fun h => h hdb)]; rfl
          subst hdb
          go_wp2
          clear q0 q1 q2
          go_roundw
          case rel => exact ⟨d + 1, n3, _, by omega, by omega, by go_num, rfl, HNO.out _ HR3.out HN.out⟩
          case measure => simp [intOf]; omega
        have hne : ((d : Int) == (b : Int)) = false := beq_eq_false_iff_ne.2 (by omega)
        have HC1 : Hid (cycB x a b d = (bt x.wins a b && (bt x.wins b d && bt x.wins d a))) := by show _ = _; rw [HCY.out, decide_eq_true hdb, Bool.true_and]
        cases e1 : bt x.wins a b
        · have HN : Hid (cycB x a b d = false) := by show _ = _; rw [HC1.out, e1]; rfl
          rw [e1] at hB1
          clear e1
          go_wp2_with (go_at_call 39; refine (hB1.out _ HR3.out.be).mono ?_; rintro e w4 ⟨rfl, hb4⟩; have H4 := Lib.hid (HR3.out.below hb4); clear hb4 q0 q1 q2)
          go_roundw
          case rel => exact ⟨d + 1, n3, _, by omega, by omega, by go_num, rfl, HNO.out _ H4.out HN.out⟩
          case measure => simp [intOf]; omega
        cases e2 : bt x.wins b d
        · have HN : Hid (cycB x a b d = false) := by show _ = _; rw [HC1.out, e1, e2]; rfl
          rw [e1] at hB1
          rw [e2] at hB2
          clear e1 e2
          go_wp2_with (first
            | (have h_ := H4.out; clear h_; go_at_call 39; (with_reducible refine (hB2.out _ H4.out.be).mono ?_); rintro e w5 ⟨rfl, hb5⟩; have H5 := Lib.hid (H4.out.below hb5); clear hb5 q0 q1 q2)
            | (go_at_call 39; (with_reducible refine (hB1.out _ HR3.out.be).mono ?_); rintro e w4 ⟨rfl, hb4⟩; have H4 := Lib.hid (HR3.out.below hb4); clear hb4 q0 q1 q2; obtain ⟨q0, q1, q2⟩ := id H4.out.bx))
          go_roundw
          case rel => exact ⟨d + 1, n3, _, by omega, by omega, by go_num, rfl, HNO.out _ H5.out HN.out⟩
          case measure => simp [intOf]; omega
        cases e3 : bt x.wins d a
        · have HN : Hid (cycB x a b d = false) := by show _ = _; rw [HC1.out, e1, e2, e3]; rfl
          rw [e1] at hB1
          rw [e2] at hB2
          rw [e3] at hB3
          clear e1 e2 e3
          go_wp2_with (first
            | (have h_ := H5.out; clear h_; go_at_call 39; (with_reducible refine (hB3.out _ H5.out.be).mono ?_); rintro e w6 ⟨rfl, hb6⟩; have H6 := Lib.hid (H5.out.below hb6); clear hb6 q0 q1 q2)
            | (have h_ := H4.out; clear h_; go_at_call 39; (with_reducible refine (hB2.out _ H4.out.be).mono ?_); rintro e w5 ⟨rfl, hb5⟩; have H5 := Lib.hid (H4.out.below hb5); clear hb5 q0 q1 q2; obtain ⟨q0, q1, q2⟩ := id H5.out.bx)
            | (go_at_call 39; (with_reducible refine (hB1.out _ HR3.out.be).mono ?_); rintro e w4 ⟨rfl, hb4⟩; have H4 := Lib.hid (HR3.out.below hb4); clear hb4 q0 q1 q2; obtain ⟨q0, q1, q2⟩ := id H4.out.bx))
          go_roundw
          case rel => exact ⟨d + 1, n3, _, by omega, by omega, by go_num, rfl, HNO.out _ H6.out HN.out⟩
          case measure => simp [intOf]; omega
        have HY : Hid (cycB x a b d = true) := by show _ = _; rw [HC1.out, e1, e2, e3]; rfl
        rw [e1] at hB1
        rw [e2] at hB2
        rw [e3] at hB3
        clear e1 e2 e3
        have hnb : n3 ≤ 1048576 := by have := HR3.out.le; omega
        go_wp2_with (first
          | (have h_ := H5.out; clear h_; go_at_call 39; (with_reducible refine (hB3.out _ H5.out.be).mono ?_); rintro e w6 ⟨rfl, hb6⟩; have H6 := Lib.hid (H5.out.below hb6); obtain ⟨vs6, ho6⟩ := H6.out.own; have HO6 := Lib.hid ho6; clear hb6 q0 q1 q2 ho6)
          | (have h_ := H4.out; clear h_; go_at_call 39; (with_reducible refine (hB2.out _ H4.out.be).mono ?_); rintro e w5 ⟨rfl, hb5⟩; have H5 := Lib.hid (H4.out.below hb5); clear hb5 q0 q1 q2; obtain ⟨q0, q1, q2⟩ := id H5.out.bx)
          | (go_at_call 39; (with_reducible refine (hB1.out _ HR3.out.be).mono ?_); rintro e w4 ⟨rfl, hb4⟩; have H4 := Lib.hid (HR3.out.below hb4); clear hb4 q0 q1 q2; obtain ⟨q0, q1, q2⟩ := id H4.out.bx)
          | (at_builtin; refine appS rfl _ _ rfl (w6.alloc (.cells #[.int .i64 (a : Int), .int .i64 (b : Int), .int .i64 (d : Int)] 3)) (w.heap.size + 1) v3 n3 vs6 rfl (HO6.out.alloc _) (some ⟨w6.heap.size, 0, none⟩) 3 3 (by rw [World.size_alloc]; rfl) hnb (by have := H6.out.sz; rw [World.size_alloc]; omega) ?_; intro v7 w7 hown7 hb7 _ _; have H7 : Hid (L4At w w7 x A c v7 (n3 + 1) ((triA x a || triR x a b) || triC x a b (d + 1)) (a * 64 + b * 8 + (d + 1))) := l4Push H6.out hown7 hb7 (by rw [triC_succ, HY.out]; simp) (by have := H6.out.le; omega); clear hown7 hb7))
        go_roundw
        case rel => exact ⟨d + 1, n3 + 1, _, by omega, by omega, by go_num, rfl, H7.out⟩
        case measure => simp [intOf]; omega
end Go.Proofs.YtoppjohbmalhnaaDoor
