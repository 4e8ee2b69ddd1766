/- Orders that are drawn from a code. -/
import Derived.Test.YtbipjmaeclgldaaDoorMbd
import Derived.Test.YtbipjmaeclgldaaDoorMap
import Derived.Test.YtbipjmaeclgldaaDoorDtq
namespace Go.Proofs.YtbipjmaeclgldaaDoor
open Go.ChangeShapes Go.WideShapes Go.ChangeAt Go.RowKit

/-- The numbers below j, each once. -/
structure NmP (L : List Int) (j : Nat) : Prop where
  len : L.length = j
  rng : ∀ y ∈ L, 0 ≤ y ∧ y < j
  nd : L.Nodup
theorem NmP.nil : NmP [] 0 := ⟨rfl, by simp, List.nodup_nil⟩
theorem NmP.nm {L : List Int} {j : Nat} (h : NmP L j) : Nm L j :=
  ⟨h.len, fun i y hi => h.rng y (List.mem_of_getElem? hi), fun i k y hi hk => (List.getElem?_inj (List.getElem?_eq_some_iff.1 hi).1 h.nd).1 (hi.trans hk.symm)⟩
theorem NmP.ins {L : List Int} {j : Nat} (h : NmP L j) (k : Nat) : NmP ((L.take k ++ [(j : Int)]) ++ L.drop k) (j + 1) := by
  have hp : ((L.take k ++ [(j : Int)]) ++ L.drop k).Perm ((j : Int) :: L) := by
    have h1 := List.perm_middle (a := (j : Int)) (l₁ := L.take k) (l₂ := L.drop k)
    rw [List.take_append_drop] at h1
    simpa using h1
  refine ⟨by rw [hp.length_eq, List.length_cons, h.len], fun y hy => ?_, hp.nodup_iff.2 (List.nodup_cons.2 ⟨fun hm => ?_, h.nd⟩)⟩
  · rcases List.mem_cons.1 (hp.mem_iff.1 hy) with rfl | hy
    · omega
    · have := h.rng y hy; omega
  · have := h.rng _ hm; omega

theorem DrR.next2 {w w2 w5 : World} {lo p n : Nat} {v vv v5 : Value} {R R5 : List Int} (h : DrR w lo w2 p v n vv R) (hc0 : Cur w p v n) (hf : Fr w5 w2.heap.size w5.heap.size v5 R5) (hb : Below w2.heap.size w2 w5) : DrR w lo w5 p v n v5 R5 :=
  ⟨hf.wide h.lo1 (Nat.le_refl _) (Nat.le_refl _), hc0.far h.cur h.keep.size hb, h.keep.far hb h.keep.size, h.lo0, Nat.le_trans h.lo1 hb.size⟩
theorem ownSome {w : World} {lo hi j : Nat} {v : Value} {R : List Int} (h : Fr w lo hi v R) (hl : R.length = j) (h0 : (∃ g c, v = .slice (some ⟨g, 0, none⟩) 0 c) ∨ 0 < j) : ∃ g c, v = .slice (some ⟨g, 0, none⟩) j c ∧ j ≤ c ∧ c ≤ maxLen := by
  obtain ⟨A, c, rfl, h1, h2⟩ := h.form
  rw [hl] at h1
  rcases h0 with ⟨g, c', e⟩ | h0
  · injection e with e1 e2 e3
    subst e1; subst e3
    exact ⟨g, c, by rw [hl], h1, h2⟩
  · obtain ⟨g, x, rfl, _⟩ := h.at_ (k := 0) (by omega)
    exact ⟨g, c, by rw [hl], h1, h2⟩
set_option maxHeartbeats 4000000 in
set_option maxRecDepth 100000 in
theorem l02Order_any (p : Nat) (v : Value) (n N : Nat) (w : World) (hc : Cur w p v n) (hn : n ≤ 1048576) (hN : N ≤ 8) :
    Calls Tryd.prog 33 #[.pointer (some ⟨p, 0, none⟩), .int .i64 (N : Int)] w fun e w' => ∃ (v' : Value) (R : List Int), e = .returned v' ∧ Nm R N ∧ InI w' v' R ∧ Cur w' p v n ∧ Keep p (p + 1) w w' := by
  have HC := Lib.hid hc
  have hp := hc.lt
  clear hc
  go_enter Tryd.func33, Tryd.ntmps33
  go_wp2
  have B1 : Hid (Below w.heap.size w (w.alloc (.cells #[] 3))) := (Below.refl _ w).alloc (Nat.le_refl _) _
  have HA : Hid (DrR w w.heap.size (w.alloc (.cells #[] 3)) p v n (.slice (some ⟨w.heap.size, 0, none⟩) 0 0) []) :=
    ⟨Fr.of_own (xs := []) (World.ownsRow_lit (base := w.heap.size) (e := 3) (size := 1) w #[] 0 (Nat.le_refl _) (by unfold maxLen; omega) rfl), HC.out.far HC.out (Nat.le_refl _) B1.out, (Keep.refl _ _ _).far B1.out (Nat.le_refl _), Nat.le_refl _, by simp⟩
  clear B1
  go_loopw [5, 6] (fun a i wr => ∃ (j g c : Nat) (R : List Int), j ≤ N ∧ i = .int .i64 j ∧ a = .slice (some ⟨g, 0, none⟩) j c ∧ Hid (j ≤ c ∧ c ≤ maxLen) ∧ Hid (DrR w w.heap.size wr p v n (.slice (some ⟨g, 0, none⟩) j c) R ∧ NmP R j)) (fun _ i _ => N - (intOf i).toNat)
  case atStart => exact ⟨0, _, 0, [], Nat.zero_le _, rfl, rfl, (by constructor <;> simp), HA.out, NmP.nil⟩
  case round =>
    obtain ⟨j, g, c, R, hj, rfl, rfl, Hc, HR⟩ := hrel
    clear HA
    by_cases hlt : j < N
    case neg =>
      obtain rfl : j = N := by omega
      have HF : Hid (Nm R j ∧ InI wr (.slice (some ⟨g, 0, none⟩) j c) R ∧ Cur wr p v n ∧ Keep p (p + 1) w wr) := ⟨HR.out.2.nm, HR.out.1.fr.in_, HR.out.1.cur, HR.out.1.keep⟩
      go_wp2
      go_ret
      exact ⟨_, R, rfl, HF.out⟩
    go_wp2_with fail
    refine (l01Below_any p v n ((j : Int) + 1) _ HR.out.1.cur hn (by omega) (by omega)).mono ?_
    rintro e w2 ⟨x, hx, rfl, hc2, hk2⟩
    have H2 : Hid (DrR w w.heap.size w2 p v n (.slice (some ⟨g, 0, none⟩) j c) R ∧ NmP R j) := ⟨HR.out.1.draw hp hc2 hk2, HR.out.2⟩
    clear hc2 hk2 HR
    obtain ⟨k, rfl⟩ := Int.eq_ofNat_of_zero_le hx.1
    have hkj : k ≤ j := by omega
    clear hx
    obtain ⟨hc1, hc2⟩ := Hc.out
    unfold maxLen at hc2
    have HRL : Hid (R.length = j ∧ (R.take k).length = k ∧ (R.drop k).length = j - k) := ⟨H2.out.2.len, by rw [List.length_take, H2.out.2.len]; omega, by rw [List.length_drop, H2.out.2.len]⟩
    have HSL : Hid (SlI w2 (some ⟨g, 0, none⟩) R) := H2.out.1.fr.sl
    have tok1 : True := trivial
    by_cases hck : c = k
    · obtain rfl : k = j := by omega
      subst hck
      have HS2 : Hid (SlI w2 (some ⟨g, 0, none⟩) (R.drop c)) := by rw [List.drop_eq_nil_of_le (by rw [HRL.out.1]; exact Nat.le_refl _)]; exact SlI.nil
      go_wp2_with (first
        | (at_builtin; have t1 := tok1; clear t1 tok1; refine appSrc rfl (.tmp 19) (.tmp 22) rfl (w2.alloc (.cells #[] 3)) w2.heap.size _ 0 [] rfl (World.ownsRow_made w2 #[] 0 (Nat.le_refl _) (by unfold maxLen; omega) rfl) ⟨g, 0, none⟩ c c (R.take c) HRL.out.2.1 rfl ((HSL.out.take_ c).alloc _) (by omega) (by simp) ?_; intro v3 w3 hown hb3 _; have H3 : Hid (w3.ownsRow w2.heap.size 3 1 v3 c (ints (R.take c)) ∧ Below w2.heap.size w2 w3) := ⟨by simpa using hown, ((Below.refl w2.heap.size w2).alloc (Nat.le_refl _) (.cells #[] 3)).trans (hb3 w2.heap.size (Nat.le_refl _) (by simp))⟩; clear hown hb3)
        | (at_builtin; have h_ := H3.out; clear h_; refine app1 rfl (.tmp 24) (.tmp 26) rfl w3 w2.heap.size v3 c (R.take c) rfl H3.out.1 _ rfl (by omega) H3.out.2.size ?_; intro v4 w4 hown hb4 _ _; have H4 : Hid (w4.ownsRow w2.heap.size 3 1 v4 (c + 1) (ints (R.take c ++ [(c : Int)])) ∧ Below w2.heap.size w2 w4 ∧ True) := ⟨hown, H3.out.2.trans (hb4 w2.heap.size (Nat.le_refl _) H3.out.2.size), trivial⟩; clear hown hb4 H3)
        | (at_builtin; have h_ := H4.out; clear h_; refine appSrc rfl (.tmp 28) (.tmp 31) rfl w4 w2.heap.size v4 (c + 1) (R.take c ++ [(c : Int)]) rfl H4.out.1 ⟨g, 0, none⟩ 0 0 (R.drop c) (by rw [HRL.out.2.2]; omega) rfl (HS2.out.below H4.out.2.1) (by omega) H4.out.2.1.size ?_; intro v5 w5 hown hb5 _; have H5 : Hid (Fr w5 w2.heap.size w5.heap.size v5 ((R.take c ++ [(c : Int)]) ++ R.drop c) ∧ Below w2.heap.size w2 w5) := ⟨Fr.of_own (by have h := hown; rw [show c + 1 + 0 = ((R.take c ++ [(c : Int)]) ++ R.drop c).length from by simp [HRL.out.2.1, HRL.out.2.2] <;> omega] at h; exact h), H4.out.2.1.trans (hb5 w2.heap.size (Nat.le_refl _) H4.out.2.1.size) ⟩; clear hown hb5 H4; have HN5 : Hid (NmP ((R.take c ++ [(c : Int)]) ++ R.drop c) (c + 1)) := H2.out.2.ins c; obtain ⟨g5, c5, rfl, hc5⟩ := ownSome H5.out.1 HN5.out.len (.inr (Nat.succ_pos _)); have HC5 := Lib.hid hc5; clear hc5; have HD5 : Hid (DrR w w.heap.size w5 p v n (.slice (some ⟨g5, 0, none⟩) (c + 1) c5) ((R.take c ++ [(c : Int)]) ++ R.drop c)) := H2.out.1.next2 HC.out H5.out.1 H5.out.2))
      go_roundw
      case rel => exact ⟨c + 1, g5, c5, _, by omega, by go_num, rfl, HC5.out, HD5.out, HN5.out⟩
      case measure => simp [intOf]; omega
    · have HS2 : Hid (SlI w2 (some ⟨g, k, none⟩) (R.drop k)) := by have h := SlI.drop_ HSL.out k; rw [Nat.zero_add] at h; exact h
      go_wp2_with (first
        | (at_builtin; have t1 := tok1; clear t1 tok1; refine appSrc rfl (.tmp 19) (.tmp 22) rfl (w2.alloc (.cells #[] 3)) w2.heap.size _ 0 [] rfl (World.ownsRow_made w2 #[] 0 (Nat.le_refl _) (by unfold maxLen; omega) rfl) ⟨g, 0, none⟩ k c (R.take k) HRL.out.2.1 rfl ((HSL.out.take_ k).alloc _) (by omega) (by simp) ?_; intro v3 w3 hown hb3 _; have H3 : Hid (w3.ownsRow w2.heap.size 3 1 v3 k (ints (R.take k)) ∧ Below w2.heap.size w2 w3) := ⟨by simpa using hown, ((Below.refl w2.heap.size w2).alloc (Nat.le_refl _) (.cells #[] 3)).trans (hb3 w2.heap.size (Nat.le_refl _) (by simp))⟩; clear hown hb3)
        | (at_builtin; have h_ := H3.out; clear h_; refine app1 rfl (.tmp 24) (.tmp 26) rfl w3 w2.heap.size v3 k (R.take k) rfl H3.out.1 _ rfl (by omega) H3.out.2.size ?_; intro v4 w4 hown hb4 _ _; have H4 : Hid (w4.ownsRow w2.heap.size 3 1 v4 (k + 1) (ints (R.take k ++ [(j : Int)])) ∧ Below w2.heap.size w2 w4 ∧ True) := ⟨hown, H3.out.2.trans (hb4 w2.heap.size (Nat.le_refl _) H3.out.2.size), trivial⟩; clear hown hb4 H3)
        | (at_builtin; have h_ := H4.out; clear h_; refine appSrc rfl (.tmp 28) (.tmp 31) rfl w4 w2.heap.size v4 (k + 1) (R.take k ++ [(j : Int)]) rfl H4.out.1 ⟨g, k, none⟩ (j - k) (c - k) (R.drop k) HRL.out.2.2 rfl (HS2.out.below H4.out.2.1) (by omega) H4.out.2.1.size ?_; intro v5 w5 hown hb5 _; have H5 : Hid (Fr w5 w2.heap.size w5.heap.size v5 ((R.take k ++ [(j : Int)]) ++ R.drop k) ∧ Below w2.heap.size w2 w5) := ⟨Fr.of_own (by have h := hown; rw [show k + 1 + (j - k) = ((R.take k ++ [(j : Int)]) ++ R.drop k).length from by simp [HRL.out.2.1, HRL.out.2.2] <;> omega] at h; exact h), H4.out.2.1.trans (hb5 w2.heap.size (Nat.le_refl _) H4.out.2.1.size) ⟩; clear hown hb5 H4; have HN5 : Hid (NmP ((R.take k ++ [(j : Int)]) ++ R.drop k) (j + 1)) := H2.out.2.ins k; obtain ⟨g5, c5, rfl, hc5⟩ := ownSome H5.out.1 HN5.out.len (.inr (Nat.succ_pos _)); have HC5 := Lib.hid hc5; clear hc5; have HD5 : Hid (DrR w w.heap.size w5 p v n (.slice (some ⟨g5, 0, none⟩) (j + 1) c5) ((R.take k ++ [(j : Int)]) ++ R.drop k)) := H2.out.1.next2 HC.out H5.out.1 H5.out.2))
      go_roundw
      case rel => exact ⟨j + 1, g5, c5, _, by omega, by go_num, rfl, HC5.out, HD5.out, HN5.out⟩
      case measure => simp [intOf]; omega
end Go.Proofs.YtbipjmaeclgldaaDoor
