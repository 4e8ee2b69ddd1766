/- Ladders: the contracts that the law FnLadders calls. -/
import Derived.Test.YtbipjmaeclgldaaDoorFle
import Derived.Test.YtbipjmaeclgldaaDoorTq
import Derived.Test.YtbipjmaeclgldaaDoorCy
import Derived.Test.YtbipjmaeclgldaaDoorMbl
import Derived.Test.YtbipjmaeclgldaaDoorCq
import Derived.Test.YtbipjmaeclgldaaDoorSx
namespace Go.Proofs.YtbipjmaeclgldaaDoor
open Go.ChangeShapes Go.WideShapes Go.ChangeAt Go.RowKit

theorem inI_sl {w : World} {A : Option Addr} {n c : Nat} {xs : List Int} (h : InI w (.slice A n c) xs) : SlI w A xs := by
  obtain ⟨A', c', e, _, _, hs⟩ := h
  injection e with e1
  subst e1
  exact hs

theorem implPlaceOf_any (A : Option Addr) (c : Nat) (l : List Int) (a : Int) (w : World) (hs : SlI w A l) (hn : l.length ≤ 1048576) (hc : l.length ≤ c) (hl : ladB l = true) :
    Calls Tryd.prog 19 #[.slice A l.length c, .int .i64 a] w fun e w' => e = .returned (.int .i64 (plc l a + 1)) ∧ w = w' := by
  have HL := Lib.hid (implLadderOk_any A c l w hs hn hc)
  have HA := Lib.hid (indexI_any A c l a w hs hn)
  have hb := plc_bd l a
  have H1 := Lib.hid hl
  clear hs hl
  go_enter Tryd.func19, Tryd.ntmps19
  go_wp2_with fail
  refine HL.out.mono ?_
  rintro e w1 ⟨rfl, rfl⟩
  rw [H1.out]
  go_wp2_with fail
  refine HA.out.mono ?_
  rintro e w1 ⟨rfl, rfl⟩
  go_wp2
  go_ret
  exact ⟨rfl, rfl⟩

def orderB (x : TourV) (l : List Int) : Bool := tourB x && (decide ((l.length : Int) = x.size) && permB l)
set_option maxRecDepth 100000 in
theorem implOrderOk_any (v : Value) (x : TourV) (A : Option Addr) (c : Nat) (l : List Int) (w : World) (hs : InT w v x) (hl : InI w (.slice A l.length c) l) (hn : l.length ≤ 1048576) :
    Calls Tryd.prog 42 #[v, .slice A l.length c] w fun e w' => e = .returned (.bool (orderB x l)) ∧ Below w.heap.size w w' := by
  have HIT := Lib.hid hs
  have HIL := Lib.hid hl
  obtain ⟨u, rfl, B, d, rfl, hd, hm, hsl⟩ := hs
  obtain ⟨A', c', he, hc, _, hsl2⟩ := hl
  injection he with e1 e2 e3
  subst e1; subst e3
  have HTO : Hid (∀ W, Below w.heap.size w W → Calls Tryd.prog 38 #[.agg #[.int .i64 x.size, .slice B x.wins.length d]] W fun e w' => e = .returned (.bool (tourB x)) ∧ Below W.heap.size W w') := fun W hW => implTourOk_any _ x W (HIT.out.below hW)
  have HIO : Hid (∀ W, Below w.heap.size w W → Calls Tryd.prog 35 #[.slice A l.length c] W fun e w' => e = .returned (.bool (permB l)) ∧ W = w') := fun W hW => isOrder_any A c l W ((inI_sl HIL.out).below hW) hn hc
  have HO : Hid (orderB x l = (tourB x && (decide ((l.length : Int) = x.size) && permB l))) := rfl
  have HB : Hid (Bx (w.alloc (.cells #[.int .i64 x.size, .slice B x.wins.length d] 33)) w.heap.size (.int .i64 x.size) (.slice B x.wins.length d) ∧ Below w.heap.size w (w.alloc (.cells #[.int .i64 x.size, .slice B x.wins.length d] 33))) := ⟨⟨by simp, by simp, by simp⟩, (Below.refl _ w).alloc (Nat.le_refl _) _⟩
  clear hsl hsl2 hd hm
  cases h1 : tourB x
  · rw [h1] at HTO
    have HE : Hid (orderB x l = false) := by show _ = _; rw [HO.out, h1]; rfl
    clear h1
    go_enter Tryd.func42, Tryd.ntmps42
    go_wp2_with (go_at_call 38; refine (HTO.out _ HB.out.2).mono ?_; rintro e w1 ⟨rfl, hb⟩; have H1 : Hid (Below w.heap.size w w1) := HB.out.2.trans (hb.mono HB.out.2.size); clear hb)
    go_ret
    exact ⟨by rw [HE.out]; rfl, H1.out⟩
  rw [h1] at HTO
  by_cases h2 : (l.length : Int) = x.size
  case neg =>
    have HE : Hid (orderB x l = false) := by show _ = _; rw [HO.out, decide_eq_false h2, Bool.false_and, Bool.and_false]
    have h2' : ((l.length : Int) == x.size) = false := beq_eq_false_iff_ne.2 h2
    clear h1 h2
    go_enter Tryd.func42, Tryd.ntmps42
    go_wp2_with (go_at_call 38; refine (HTO.out _ HB.out.2).mono ?_; rintro e w1 ⟨rfl, hb⟩; have H1 : Hid (Below w.heap.size w w1) := HB.out.2.trans (hb.mono HB.out.2.size); obtain ⟨q0, q1, q2⟩ := HB.out.1.below hb; clear hb)
    go_ret
    exact ⟨by rw [HE.out]; rfl, H1.out⟩
  have HE : Hid (orderB x l = permB l) := by show _ = _; rw [HO.out, h1, decide_eq_true h2, Bool.true_and, Bool.true_and]
  have h2' : ((l.length : Int) == x.size) = true := beq_iff_eq.2 h2
  clear h1 h2
  go_enter Tryd.func42, Tryd.ntmps42
  go_wp2_with (first
    | (go_at_call 38; refine (HTO.out _ HB.out.2).mono ?_; rintro e w1 ⟨rfl, hb⟩; have H1 : Hid (Below w.heap.size w w1) := HB.out.2.trans (hb.mono HB.out.2.size); obtain ⟨q0, q1, q2⟩ := HB.out.1.below hb; clear hb)
    | (go_at_call 35; refine (HIO.out _ H1.out).mono ?_; rintro e w2 ⟨rfl, rfl⟩))
  go_ret
  exact ⟨by rw [HE.out]; rfl, H1.out⟩

/-- The pairs so far. -/
structure BkAt (w wr : World) (x : TourV) (B : Option Addr) (d : Nat) (v : Value) (L : List (List Int)) : Prop where
  ow : OwS wr (w.heap.size + 1) wr.heap.size v L
  bx : Bx wr w.heap.size (.int .i64 (x.wins.length : Int)) (.slice B x.wins.length d)
  be : Below w.heap.size w wr
theorem rowLit2 (w : World) (a b : Int) : Fr (w.alloc (.cells #[.int .i64 a, .int .i64 b] 3)) w.heap.size (w.alloc (.cells #[.int .i64 a, .int .i64 b] 3)).heap.size (.slice (some ⟨w.heap.size, 0, none⟩) 2 2) [a, b] :=
  Fr.of_own (xs := [a, b]) (World.ownsRow_lit (base := w.heap.size) (e := 3) (size := 1) w #[.int .i64 a, .int .i64 b] 2 (Nat.le_refl _) (by unfold maxLen; omega) rfl)
theorem BkAt.below {w wr w2 : World} {x : TourV} {B : Option Addr} {d : Nat} {v : Value} {L : List (List Int)} (h : BkAt w wr x B d v L) (hb : Below wr.heap.size wr w2) : BkAt w w2 x B d v L :=
  ⟨(h.ow.grow hb).top hb.size (Nat.le_refl _), h.bx.below hb, h.be.trans (hb.mono h.be.size)⟩
theorem BkAt.lo {w wr : World} {x : TourV} {B : Option Addr} {d : Nat} {v : Value} {L : List (List Int)} (h : BkAt w wr x B d v L) : w.heap.size + 1 ≤ wr.heap.size := by
  obtain ⟨_, _, _, _, h1, h2, _⟩ := h.ow
  omega
theorem BkAt.next {w W w2 : World} {x : TourV} {B : Option Addr} {d : Nat} {v v2 : Value} {L L2 : List (List Int)} {o : Obj} (h : BkAt w W x B d v L) (how : OwS w2 (w.heap.size + 1) w2.heap.size v2 L2)
    (hb : ∀ D, D ≤ w.heap.size + 1 → D ≤ (W.alloc o).heap.size → Below D (W.alloc o) w2) : BkAt w w2 x B d v2 L2 := by
  have hz := h.lo
  have b1 : Below W.heap.size W (W.alloc o) := (Below.refl _ W).alloc (Nat.le_refl _) _
  have b2 := hb (w.heap.size + 1) (Nat.le_refl _) (by rw [World.size_alloc]; omega)
  have b3 : Below (w.heap.size + 1) W w2 := (b1.mono hz).trans b2
  exact ⟨how, h.bx.under b3 (Nat.lt_succ_self _), h.be.trans (b3.mono (Nat.le_succ _))⟩
theorem bkStart {w : World} {x : TourV} {B : Option Addr} {d : Nat} : BkAt w (w.alloc (.cells #[.int .i64 (x.wins.length : Int), .slice B x.wins.length d] 33)) x B d (.slice none 0 0) [] :=
  ⟨OwS.nil _ (by rw [World.size_alloc]; exact Nat.le_refl _) (by rw [World.size_alloc]; exact Nat.le_refl _), ⟨by simp, by simp, by simp⟩, (Below.refl _ w).alloc (Nat.le_refl _) _⟩
theorem backL_cap {xs l : List Int} {n : Nat} (h : n ≤ 8) : ∀ a, (backL xs l n a).length ≤ a * 8
  | 0 => by simp [backL]
  | a + 1 => by
    have ih := backL_cap (xs := xs) (l := l) h a
    have h2 : (backR xs l n a n).length ≤ n := by
      unfold backR
      rw [List.length_map]
      exact Nat.le_trans (List.length_filter_le _ _) (by rw [List.length_range]; exact Nat.le_refl _)
    rw [backL_succ, List.length_append]; omega
theorem backR_cap {xs l : List Int} {n a : Nat} (m : Nat) : (backR xs l n a m).length ≤ m := by
  unfold backR
  rw [List.length_map]
  exact Nat.le_trans (List.length_filter_le _ _) (by rw [List.length_range]; exact Nat.le_refl _)
set_option maxHeartbeats 4000000 in
set_option maxRecDepth 100000 in
theorem backGames_any (v : Value) (x : TourV) (A : Option Addr) (c : Nat) (l : List Int) (w : World) (hs : InT w v x) (hok : tourB x = true) (hl : SlI w A l) (hn : l.length ≤ 1048576) :
    Calls Tryd.prog 43 #[v, .slice A l.length c] w fun e w' => ∃ v', e = .returned v' ∧ OwS w' w.heap.size w'.heap.size v' (backL x.wins l x.wins.length x.wins.length) ∧ Below w.heap.size w w' := by
  have HIT := Lib.hid hs
  have HIL := Lib.hid hl
  obtain ⟨u, rfl, B, d, rfl, hd, hm, hsl⟩ := hs
  obtain ⟨t1, t2, t3, t4, _⟩ := tourB_t hok
  have hn8 : x.wins.length ≤ 8 := by omega
  have HSZ : Hid (x.size = (x.wins.length : Int)) := t3.symm
  have HBT : Hid (∀ V (p q : Nat), Below w.heap.size w V → p < x.wins.length → q < x.wins.length → Calls Tryd.prog 39 #[.agg #[.int .i64 x.size, .slice B x.wins.length d], .int .i64 (p : Int), .int .i64 (q : Int)] V fun e w' => e = .returned (.bool (bt x.wins p q)) ∧ Below V.heap.size V w') := fun V p q hV hp hq => implBeats_any _ x p q V (HIT.out.below hV) hn8 t4 hp (by omega)
  have HIX : Hid (∀ V (q : Nat), Below w.heap.size w V → Calls Tryd.prog 44 #[.slice A l.length c, .int .i64 (q : Int)] V fun e w' => e = .returned (.int .i64 (plc l (q : Int))) ∧ V = w') := fun V q hV => indexI_any A c l _ V (HIL.out.below hV) hn
  have H0 := Lib.hid (bkStart (w := w) (x := x) (B := B) (d := d))
  rw [HSZ.out] at HBT
  rw [HSZ.out]
  clear hsl hl hok t1 t2 t3 t4 hm hd
  obtain ⟨q0, q1, q2⟩ := id H0.out.bx
  go_enter Tryd.func43, Tryd.ntmps43
  go_wp2
  clear q0 q1 q2
  go_loopw [5, 10] (fun o i wr => ∃ (a : Nat) (vv : Value), a ≤ x.wins.length ∧ i = .int .i64 a ∧ vv = o ∧ Hid (BkAt w wr x B d vv (backL x.wins l x.wins.length a))) (fun _ i _ => x.wins.length - (intOf i).toNat)
  case atStart => exact ⟨0, _, Nat.zero_le _, rfl, rfl, H0.out⟩
  case round =>
    obtain ⟨a, vv, ha, rfl, rfl, HR⟩ := hrel
    obtain ⟨wo, rfl⟩ : ∃ W, W = wr := ⟨wr, rfl⟩
    clear H0
    by_cases hlt : a < x.wins.length
    case neg =>
      obtain rfl : a = x.wins.length := by omega
      go_wp2
      go_ret
      exact ⟨_, rfl, HR.out.ow.wideLo (Nat.le_succ _), HR.out.be⟩
    obtain ⟨q0, q1, q2⟩ := id HR.out.bx
    have HCA : Hid ((backL x.wins l x.wins.length a).length ≤ 64) := by
      have := backL_cap (xs := x.wins) (l := l) hn8 a
      show _ ≤ _; omega
    go_wp2
    clear q0 q1 q2
    go_loopw [5, 15] (fun o i wr => ∃ (b : Nat) (vv : Value), b ≤ x.wins.length ∧ i = .int .i64 b ∧ vv = o ∧ Hid (BkAt w wr x B d vv (backL x.wins l x.wins.length a ++ backR x.wins l x.wins.length a b))) (fun _ i _ => x.wins.length - (intOf i).toNat)
    case atStart => exact ⟨0, _, Nat.zero_le _, rfl, rfl, by show BkAt _ _ _ _ _ _ _; rw [show backR x.wins l x.wins.length a 0 = [] from rfl, List.append_nil]; exact HR.out⟩
    case round =>
      obtain ⟨b, v2, hb, rfl, rfl, HR2⟩ := hrel
      obtain ⟨w1, rfl⟩ : ∃ W, W = wr := ⟨wr, rfl⟩
      clear HR
      by_cases hlt2 : b < x.wins.length
      case neg =>
        obtain rfl : b = x.wins.length := by omega
        have HN : Hid (BkAt w w1 x B d v2 (backL x.wins l x.wins.length (a + 1))) := by show BkAt _ _ _ _ _ _ _; rw [backL_succ]; exact HR2.out
        go_wp2
        go_roundw
        case rel => exact ⟨a + 1, _, by omega, by go_num, rfl, HN.out⟩
        case measure => simp [intOf]; omega
      obtain ⟨q0, q1, q2⟩ := id HR2.out.bx
      have HBK : Hid (backP x.wins l a b = (bt x.wins a b && decide (plc l (b : Int) < plc l (a : Int)))) := rfl
      have HNO : Hid (∀ W, BkAt w W x B d v2 (backL x.wins l x.wins.length a ++ backR x.wins l x.wins.length a b) → backP x.wins l a b = false → BkAt w W x B d v2 (backL x.wins l x.wins.length a ++ backR x.wins l x.wins.length a (b + 1))) := fun W h e => by
        rw [backR_succ, e]; simpa using h
      have hB1 := Lib.hid (fun V hV => HBT.out V a b hV hlt hlt2)
      cases e1 : bt x.wins a b
      · have HN : Hid (backP x.wins l a b = false) := by show _ = _; rw [HBK.out, e1]; rfl
        rw [e1] at hB1
        clear e1
        go_wp2_with (go_at_call 39; refine (hB1.out _ HR2.out.be).mono ?_; rintro e w4 ⟨rfl, hb4⟩; have H4 := Lib.hid (HR2.out.below hb4); clear hb4 q0 q1 q2)
        go_roundw
        case rel => exact ⟨b + 1, _, by omega, by go_num, rfl, HNO.out _ H4.out HN.out⟩
        case measure => simp [intOf]; omega
      rw [e1] at hB1
      have pb1 := plc_bd l (a : Int)
      have pb2 := plc_bd l (b : Int)
      by_cases e2 : plc l (b : Int) < plc l (a : Int)
      case neg =>
        have HN : Hid (backP x.wins l a b = false) := by show _ = _; rw [HBK.out, decide_eq_false e2, Bool.and_false]
        clear e1
        go_wp2_with (first
          | (go_at_call 39; refine (hB1.out _ HR2.out.be).mono ?_; rintro e w4 ⟨rfl, hb4⟩; have H4 := Lib.hid (HR2.out.below hb4); clear hb4 q0 q1 q2)
          | (go_at_call 44; refine (HIX.out _ _ H4.out.be).mono ?_; rintro e w5 ⟨rfl, rfl⟩))
        go_roundw
        case rel => exact ⟨b + 1, _, by omega, by go_num, rfl, HNO.out _ H4.out HN.out⟩
        case measure => simp [intOf]; omega
      have HY : Hid (backL x.wins l x.wins.length a ++ backR x.wins l x.wins.length a (b + 1) = (backL x.wins l x.wins.length a ++ backR x.wins l x.wins.length a b) ++ [[(a : Int), (b : Int)]]) := by
        show _ = _; rw [backR_succ, HBK.out, e1, decide_eq_true e2, Bool.and_self, if_pos rfl, List.append_assoc]
      have hcap : (backL x.wins l x.wins.length a ++ backR x.wins l x.wins.length a b).length ≤ 1048576 := by
        have h1 := HCA.out
        have h2 := backR_cap (xs := x.wins) (l := l) (n := x.wins.length) (a := a) b
        rw [List.length_append]; omega
      clear e1
      go_wp2_with (first
        | (go_at_call 39; refine (hB1.out _ HR2.out.be).mono ?_; rintro e w4 ⟨rfl, hb4⟩; have H4 := Lib.hid (HR2.out.below hb4); obtain ⟨vs, hown6, hpush⟩ := H4.out.ow.pushed ((Below.refl _ w4).alloc (Nat.le_refl _) _) (rowLit2 w4 (a : Int) (b : Int)); have HO := Lib.hid hown6; have HP := Lib.hid hpush; clear hb4 q0 q1 q2 hown6 hpush)
        | (go_at_call 44; refine (HIX.out _ _ H4.out.be).mono ?_; rintro e w5 ⟨rfl, rfl⟩)
        | (at_builtin; refine appS rfl _ _ rfl (w4.alloc (.cells #[.int .i64 (a : Int), .int .i64 (b : Int)] 3)) (w.heap.size + 1) v2 _ vs rfl HO.out (some ⟨w4.heap.size, 0, none⟩) 2 2 (by rw [World.size_alloc]; rfl) hcap (by have := H4.out.lo; rw [World.size_alloc]; omega) ?_; intro v7 w7 hown7 hb7 _ hg7; have H7 : Hid (BkAt w w7 x B d v7 (backL x.wins l x.wins.length a ++ backR x.wins l x.wins.length a (b + 1))) := (by show BkAt _ _ _ _ _ _ _; rw [HY.out]; exact H4.out.next (HP.out _ _ hown7 hg7) hb7); clear hown7 hb7 hg7))
      go_roundw
      case rel => exact ⟨b + 1, _, by omega, by go_num, rfl, H7.out⟩
      case measure => simp [intOf]; omega

set_option maxRecDepth 100000 in
theorem implCountRev_any (v : Value) (x : TourV) (A : Option Addr) (c : Nat) (l : List Int) (w : World) (hs : InT w v x) (hok : tourB x = true) (hl : InI w (.slice A l.length c) l) (hlad : ladB l = true) (hlen : l.length = x.wins.length) :
    Calls Tryd.prog 18 #[v, .slice A l.length c] w fun e w' => e = .returned (.int .i64 (rev x.wins l : Nat)) ∧ Below w.heap.size w w' := by
  have HIT := Lib.hid hs
  have HIL := Lib.hid hl
  have h8 := (ladB_t hlad).1.2
  have HOO : Hid (∀ W, Below w.heap.size w W → Calls Tryd.prog 42 #[v, .slice A l.length c] W fun e w' => e = .returned (.bool true) ∧ Below W.heap.size W w') := fun W hW => by
    have h := implOrderOk_any v x A c l W (HIT.out.below hW) (HIL.out.below hW) (by omega)
    have hb : orderB x l = true := by
      unfold orderB
      rw [hok, decide_eq_true (show (l.length : Int) = x.size by have := (tourB_t hok).2.2.1; omega)]
      simp only [ladB, Bool.and_eq_true] at hlad
      simpa using hlad.2
    rwa [hb] at h
  have HBG : Hid (∀ W, Below w.heap.size w W → Calls Tryd.prog 43 #[v, .slice A l.length c] W fun e w' => ∃ A' c', e = .returned (.slice A' (rev x.wins l) c') ∧ Below W.heap.size W w') := fun W hW => by
    refine (backGames_any v x A c l W (HIT.out.below hW) hok ((inI_sl HIL.out).below hW) (by omega)).mono ?_
    rintro e w' ⟨v', rfl, ho, hb⟩
    obtain ⟨A', c', rfl, _⟩ := ho.form
    refine ⟨A', c', ?_, hb⟩
    rw [← hlen, backL_rev hlad]
  obtain ⟨u, rfl, B, d, rfl, -, -, -⟩ := hs
  have HB : Hid (Bx (w.alloc (.cells #[.int .i64 x.size, .slice B x.wins.length d] 33)) w.heap.size (.int .i64 x.size) (.slice B x.wins.length d) ∧ Below w.heap.size w (w.alloc (.cells #[.int .i64 x.size, .slice B x.wins.length d] 33))) := ⟨⟨by simp, by simp, by simp⟩, (Below.refl _ w).alloc (Nat.le_refl _) _⟩
  clear hok hl hlad hlen
  go_enter Tryd.func18, Tryd.ntmps18
  go_wp2_with (first
    | (go_at_call 42; refine (HOO.out _ HB.out.2).mono ?_; rintro e w1 ⟨rfl, hb⟩; have H1 : Hid (Below w.heap.size w w1) := HB.out.2.trans (hb.mono HB.out.2.size); obtain ⟨q0, q1, q2⟩ := HB.out.1.below hb; clear hb)
    | (go_at_call 43; refine (HBG.out _ H1.out).mono ?_; rintro e w2 ⟨A', c', rfl, hb⟩; have H2 : Hid (Below w.heap.size w w2) := H1.out.trans (hb.mono H1.out.size); clear hb))
  go_ret
  exact ⟨rfl, H2.out⟩
end Go.Proofs.YtbipjmaeclgldaaDoor
