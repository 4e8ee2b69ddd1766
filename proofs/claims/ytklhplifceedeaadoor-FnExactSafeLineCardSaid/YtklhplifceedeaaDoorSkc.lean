/- slices.Grow of the nil slice, and slices.Concat of two. -/
import Derived.Test.YtklhplifceedeaaDoorTools
import Derived.Test.YtklhplifceedeaaDoorBox
import Derived.Lib.AppendZeros
namespace Go.Proofs.YtklhplifceedeaaDoor
open Go.ChangeShapes Go.WideShapes Go.ChangeAt Go.RowKit

set_option maxHeartbeats 1000000 in
set_option maxRecDepth 100000 in
theorem growI_any (n : Nat) (w : World) (hn : n ≤ 1048576) :
    Calls Tryd.prog 55 #[.slice none 0 0, .int .i64 n] w fun e w' => ∃ A c, e = .returned (.slice A 0 c) ∧ Fr w' w.heap.size w'.heap.size (.slice A 0 c) [] ∧ Below w.heap.size w w' := by
  by_cases h0 : n = 0
  · subst h0
    go_enter Tryd.func55, Tryd.ntmps55
    go_wp2
    go_ret
    exact ⟨none, 0, rfl, Fr.nil w (Nat.le_refl _), Below.refl _ _⟩
  · obtain ⟨i0, hi, hz0, hz1, hz2⟩ := info_parts infoInt
    have happ := Lib.run_append_nil_zeros (P := Tryd.prog) w 22 3 22 3 i0 (.int .i64 0) .i64 .i64 Tryd.underlying22 Tryd.underlying3 hi hz0 n (by omega) (by omega) (by omega) (by rw [hz2]; omega)
    generalize hcap : grownCap w n 0 3 = cap2 at happ
    have hcapge : n ≤ cap2 := by rw [← hcap]; exact grownCap_ge w _ 0 _
    have hcaple : cap2 ≤ maxLen := by rw [← hcap]; exact grownCap_le_maxLen w _ 0 _ (by unfold maxLen; omega)
    generalize hZ : (Builtin.zeroCells (Value.int .i64 0).cells n ++ Builtin.zeroCells (Value.int .i64 0).cells (cap2 - n)) = Z at happ
    have hZs : Z.size = cap2 := by rw [← hZ]; simp [size_zeroCells, Value.cells]; omega
    clear hcap hZ
    have HF : Hid (Fr (w.drew.alloc (.cells Z 3)) w.heap.size (w.drew.alloc (.cells Z 3)).heap.size (.slice (some ⟨w.heap.size, 0, none⟩) 0 cap2) [] ∧ Below w.heap.size w (w.drew.alloc (.cells Z 3))) := ⟨Fr.of_own (World.ownsRow_made w.drew Z cap2 (Nat.le_refl _) hcaple (by omega)), ((Below.refl _ w).drew).alloc (Nat.le_refl _) _⟩
    have HA := Lib.hid happ
    have h1 : (0 : Int) < n := by omega
    clear happ
    go_enter Tryd.func55, Tryd.ntmps55
    go_wp2_with (at_builtin; refine Lib.wpList_append_run _ rfl _ _ _ _ rfl _ _ rfl rfl _ _ HA.out ?_)
    go_ret
    exact ⟨_, _, rfl, HF.out⟩

set_option maxHeartbeats 2000000 in
set_option maxRecDepth 100000 in
theorem concatI_any (b : Nat) (A1 A2 : Addr) (c1 c2 : Nat) (xs ys : List Int) (w : World) (h0 : w.cell? ⟨b, 0, none⟩ = some (.slice (some A1) xs.length c1)) (h1 : w.cell? ⟨b, 1, none⟩ = some (.slice (some A2) ys.length c2)) (hx : SlI w (some A1) xs) (hy : SlI w (some A2) ys) (hxl : xs.length ≤ 10000) (hyl : ys.length ≤ 10000) :
    Calls Tryd.prog 48 #[.slice (some ⟨b, 0, none⟩) 2 2] w fun e w' => ∃ A c, e = .returned (.slice A (xs ++ ys).length c) ∧ Fr w' w.heap.size w'.heap.size (.slice A (xs ++ ys).length c) (xs ++ ys) ∧ Below w.heap.size w w' := by
  have HX := Lib.hid hx
  have HY := Lib.hid hy
  have HC : Hid (∀ W, Below w.heap.size w W → W.cell? ⟨b, 0, none⟩ = some (.slice (some A1) xs.length c1) ∧ W.cell? ⟨b, 1, none⟩ = some (.slice (some A2) ys.length c2)) := fun W hW => ⟨(hW.cell (block_lt_of_cell h0)).trans h0, (hW.cell (block_lt_of_cell h1)).trans h1⟩
  generalize hl1 : xs.length = n1 at *
  generalize hl2 : ys.length = n2 at *
  have HL1 := Lib.hid hl1
  have HL2 := Lib.hid hl2
  have HSZ : Hid ((xs ++ ys).length = n1 + n2) := by show _ = _; rw [List.length_append, hl1, hl2]
  clear hx hy hl1 hl2
  go_enter Tryd.func48, Tryd.ntmps48
  go_wp2
  go_loop [3, 11] (fun s i => ∃ q : Nat, q ≤ 2 ∧ i = .int .i64 q ∧ s = .int .i64 (if q = 0 then (0 : Int) else if q = 1 then (n1 : Int) else (n1 + n2 : Int))) (fun _ i => 2 - (intOf i).toNat)
  case atStart => exact ⟨0, by omega, rfl, rfl⟩
  case round =>
    obtain ⟨q, hq, rfl, rfl⟩ := hrel
    match q, hq with
    | 0, _ =>
      simp only [if_true]
      go_wp2
      go_round
      case rel => exact ⟨1, by omega, rfl, by simp⟩
      case measure => simp [intOf]
    | 1, _ =>
      simp only [Nat.one_ne_zero, if_true, if_false]
      have h2 : ¬ ((n1 : Int) + n2 < 0) := by omega
      go_wp2
      go_round
      case rel => exact ⟨2, by omega, rfl, by simp⟩
      case measure => simp [intOf]
    | 2, _ =>
      simp only [show ¬ (2 : Nat) = 0 by omega, show ¬ (2 : Nat) = 1 by omega, if_false]
      have HG : Hid (Calls Tryd.prog 55 #[.slice none 0 0, .int .i64 ((n1 : Int) + n2)] w fun e w' => ∃ A c, e = .returned (.slice A 0 c) ∧ Fr w' w.heap.size w'.heap.size (.slice A 0 c) [] ∧ Below w.heap.size w w') := growI_any (n1 + n2) w (by omega)
      clear h0 h1
      go_wp2_with (go_at_call 55; refine HG.out.mono ?_; rintro e w1 ⟨A, c, rfl, hf, hb⟩; have H1 : Hid (Fr w1 w.heap.size w1.heap.size (.slice A 0 c) [] ∧ Below w.heap.size w w1) := ⟨hf, hb⟩; clear hf hb; obtain ⟨h0, h1⟩ := HC.out w1 H1.out.2)
      go_loopw [6, 27] (fun v i wr => ∃ (q : Nat) (vv : Value), q ≤ 2 ∧ i = .int .i64 q ∧ vv = v ∧ Hid (Fr wr w.heap.size wr.heap.size vv (if q = 0 then [] else if q = 1 then xs else xs ++ ys) ∧ Below w.heap.size w wr)) (fun _ i _ => 2 - (intOf i).toNat)
      case atStart => exact ⟨0, _, by omega, rfl, rfl, H1.out⟩
      case round =>
        obtain ⟨q, vv, hq, rfl, rfl, HR⟩ := hrel
        obtain ⟨h0', h1'⟩ := HC.out wr HR.out.2
        match q, hq, HR with
        | 0, _, HR =>
          go_wp2_with (at_builtin; refine appSrc rfl _ _ rfl wr w.heap.size vv 0 [] rfl HR.out.1.own A1 n1 c1 xs HL1.out rfl (SlI.below HX.out HR.out.2) (by omega) HR.out.2.size ?_; intro v2 w2 hown hb2 _; have H2 : Hid (Fr w2 w.heap.size w2.heap.size v2 xs ∧ Below w.heap.size w w2) := ⟨Fr.of_own (by rw [HL1.out]; simpa using hown), HR.out.2.trans (hb2 _ (Nat.le_refl _) HR.out.2.size)⟩; clear hown hb2)
          go_roundw
          case rel => exact ⟨1, _, by omega, rfl, rfl, H2.out⟩
          case measure => simp [intOf]
        | 1, _, HR =>
          have HR1 : Hid (Fr wr w.heap.size wr.heap.size vv xs ∧ Below w.heap.size w wr) := HR.out
          clear HR
          go_wp2_with (at_builtin; refine appSrc rfl _ _ rfl wr w.heap.size vv n1 xs rfl (by have := HR1.out.1.own; rw [HL1.out] at this; exact this) A2 n2 c2 ys HL2.out rfl (SlI.below HY.out HR1.out.2) (by omega) HR1.out.2.size ?_; intro v2 w2 hown hb2 _; have H2 : Hid (Fr w2 w.heap.size w2.heap.size v2 (xs ++ ys) ∧ Below w.heap.size w w2) := ⟨Fr.of_own (by rw [HSZ.out]; exact hown), HR1.out.2.trans (hb2 _ (Nat.le_refl _) HR1.out.2.size)⟩; clear hown hb2)
          go_roundw
          case rel => exact ⟨2, _, by omega, rfl, rfl, H2.out⟩
          case measure => simp [intOf]
        | 2, _, HR =>
          have HR2 : Hid (Fr wr w.heap.size wr.heap.size vv (xs ++ ys) ∧ Below w.heap.size w wr) := HR.out
          clear HR
          go_wp2
          go_ret
          obtain ⟨A', c', rfl, _⟩ := HR2.out.1.form
          exact ⟨A', c', by rw [HSZ.out]; rfl, by have := HR2.out.1; rw [HSZ.out] at this ⊢; exact this, HR2.out.2⟩
end Go.Proofs.YtklhplifceedeaaDoor
