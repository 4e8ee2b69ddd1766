/- When a tour is valid: the implementation's contract. -/
import Derived.Test.YtklhplifceedeaaDoorTok
namespace Go.Proofs.YtklhplifceedeaaDoor
open Go.ChangeShapes Go.WideShapes Go.ChangeAt Go.RowKit

theorem two_subN : ∀ k : Fin 9, IntKind.i64.wrap (IntKind.i64.wrap (2 ^ k.val) - 1) = (2 : Int) ^ k.val - 1 := by decide +kernel

theorem tk_below {w w2 : World} {o : Obj} (h : Below ((w.alloc o).drew).heap.size (w.alloc o).drew w2) : Below w.heap.size w w2 ∧ w.heap.size < w2.heap.size :=
  ⟨((Below.refl w.heap.size w).alloc (Nat.le_refl _) o).trans ((below_undraw (q := 1) h).mono (by simp [World.drew])), Nat.lt_of_lt_of_le (by simp [World.drew]) h.size⟩

set_option maxHeartbeats 4000000 in
set_option maxRecDepth 100000 in
theorem implTourOk_any (v : Value) (x : TourV) (w : World) (hs : InT w v x) :
    Calls Tryd.prog 24 #[v] w fun e w' => e = .returned (.bool (tourB x)) ∧ Below w.heap.size w w' := by
  have hs0 := hs
  obtain ⟨u, rfl, A, c, rfl, hc, hm, hsl⟩ := hs
  have HS := Lib.hid (And.intro hs0 hsl)
  unfold maxLen at hm
  clear hs0 hsl
  cases h1 : inB x.size 1 8
  · have HO : Hid (tourB x = false) := tourB_size h1
    go_enter Tryd.func24, Tryd.ntmps24
    go_wp2_with fail
    go_quiet ((go_at_call 35; exact quiet_left (within_any _ _ _ _)))
    go_wp2
    go_ret
    exact ⟨ret_bool (by rw [HO.out]), below_drewN ((Below.refl _ w).alloc (Nat.le_refl _) _) _⟩
  · by_cases h2 : (x.wins.length : Int) = x.size
    · obtain ⟨hs1, hs2⟩ := inB_t.1 h1
      obtain ⟨sz, xs⟩ := x
      simp only at h1 h2 hs1 hs2 HS hc
      subst h2
      have hn8 : xs.length ≤ 8 := by omega
      have htw : IntKind.i64.wrap (IntKind.i64.wrap (2 ^ xs.length) - 1) = (2 : Int) ^ xs.length - 1 := two_subN ⟨xs.length, by omega⟩
      have HTW := Lib.hid htw
      clear htw
      cases h3 : winsB xs.length xs
      · have HO : Hid (tourB ⟨(xs.length : Int), xs⟩ = false) := tourB_wins h3
        go_enter Tryd.func24, Tryd.ntmps24
        go_wp2_with fail
        go_region_held3 (fun W => W.cell? ⟨w.heap.size, 0, none⟩ = some (.int .i64 xs.length) ∧ W.cell? ⟨w.heap.size, 1, none⟩ = some (.slice A xs.length c)) (first | go_keep | exact ⟨q0, q1⟩) (first
          | (go_at_call 35; refine (within_any _ _ _ _).mono ?_; rintro e w' ⟨rfl, rfl⟩; rw [h1])
          | (go_at_call 36; rw [HTW.out]; refine (allWithin_any A c xs 0 _ _ (SlI.drew (SlI.alloc HS.out.2 _)) (by omega)).mono ?_; rintro e w2 ⟨rfl, hb2⟩; rw [show (xs.all fun y => inB y 0 (2 ^ xs.length - 1)) = false from h3]; have q0 : w2.cell? ⟨w.heap.size, 0, none⟩ = some (.int .i64 xs.length) := (hb2.cell (p := ⟨w.heap.size, 0, none⟩) (by simp [World.drew])).trans (by simp [go_sem]); have q1 : w2.cell? ⟨w.heap.size, 1, none⟩ = some (.slice A xs.length c) := (hb2.cell (p := ⟨w.heap.size, 1, none⟩) (by simp [World.drew])).trans (by simp [go_sem]); have HB := Lib.hid (tk_below hb2); clear hb2))
        go_wp2
        go_ret
        exact ⟨ret_bool (by rw [HO.out]), HB.out.1⟩
      · have HO : Hid (tourB ⟨(xs.length : Int), xs⟩ = (List.range xs.length).all (rowB xs)) := tourB_go h1 rfl h3
        have HV := Lib.hid h3
        go_enter Tryd.func24, Tryd.ntmps24
        go_wp2_with fail
        go_region_held3 (fun W => W.cell? ⟨w.heap.size, 0, none⟩ = some (.int .i64 xs.length) ∧ W.cell? ⟨w.heap.size, 1, none⟩ = some (.slice A xs.length c)) (first | go_keep | exact ⟨q0, q1⟩) (first
          | (go_at_call 35; refine (within_any _ _ _ _).mono ?_; rintro e w' ⟨rfl, rfl⟩; rw [h1])
          | (go_at_call 36; rw [HTW.out]; refine (allWithin_any A c xs 0 _ _ (SlI.drew (SlI.alloc HS.out.2 _)) (by omega)).mono ?_; rintro e w2 ⟨rfl, hb2⟩; rw [show (xs.all fun y => inB y 0 (2 ^ xs.length - 1)) = true from h3]; have q0 : w2.cell? ⟨w.heap.size, 0, none⟩ = some (.int .i64 xs.length) := (hb2.cell (p := ⟨w.heap.size, 0, none⟩) (by simp [World.drew])).trans (by simp [go_sem]); have q1 : w2.cell? ⟨w.heap.size, 1, none⟩ = some (.slice A xs.length c) := (hb2.cell (p := ⟨w.heap.size, 1, none⟩) (by simp [World.drew])).trans (by simp [go_sem]); have HB := Lib.hid (tk_below hb2); clear hb2))
        clear h3 h1
        have HB2 : Hid (Bx w2 w.heap.size (.int .i64 xs.length) (.slice A xs.length c) ∧ Below w.heap.size w w2) := ⟨⟨q0, q1, HB.out.2⟩, HB.out.1⟩
        go_wp2_with fail
        clear q0 q1 HB
        go_loopw [29] (fun i wr => ∃ a : Nat, a ≤ xs.length ∧ i = .int .i64 a ∧ Hid (∀ a', a' < a → rowB xs a' = true) ∧ Hid (Bx wr w.heap.size (.int .i64 xs.length) (.slice A xs.length c) ∧ Below w.heap.size w wr)) (fun i _ => xs.length - (intOf i).toNat)
        case atStart => exact ⟨0, Nat.zero_le _, rfl, fun a' h => absurd h (Nat.not_lt_zero _), HB2⟩
        case round =>
          obtain ⟨a, ha, rfl, HA, HR⟩ := hrel
          obtain ⟨wo, rfl⟩ : ∃ W, W = wr := ⟨wr, rfl⟩
          clear HB2
          by_cases hlt : a < xs.length
          · go_wp2_with fail
            go_loopw [33] (fun i wr => ∃ b : Nat, b ≤ a ∧ i = .int .i64 b ∧ Hid (∀ b', b' < b → bt xs a b' ≠ bt xs b' a) ∧ Hid (Bx wr w.heap.size (.int .i64 xs.length) (.slice A xs.length c) ∧ Below w.heap.size w wr)) (fun i _ => a - (intOf i).toNat)
            case atStart => exact ⟨0, Nat.zero_le _, rfl, fun b' h => absurd h (Nat.not_lt_zero _), HR⟩
            case round =>
              obtain ⟨b, hb, rfl, HBB, HR2⟩ := hrel
              clear HR
              obtain ⟨⟨q0, q1, q2⟩, -⟩ := id HR2.out
              have HI : Hid (InT wr (.agg #[.int .i64 xs.length, .slice A xs.length c]) ⟨(xs.length : Int), xs⟩) := HS.out.1.below HR2.out.2
              by_cases hlt2 : b < a
              · have tok1 : True := trivial
                have tok2 : True := trivial
                cases hab : bt xs a b <;> cases hba : bt xs b a
                all_goals
                  have HAB := Lib.hid (And.intro hab hba)
                  clear hab hba
                  go_upto_region 9 with (fail)
                  go_region_held3 (fun W => W.cell? ⟨w.heap.size, 0, none⟩ = some (.int .i64 xs.length) ∧ W.cell? ⟨w.heap.size, 1, none⟩ = some (.slice A xs.length c)) (first | exact ⟨q0, q1⟩) (first
                    | (go_at_call 37; clear tok1; refine (implBeats_any _ ⟨(xs.length : Int), xs⟩ a b wr.drew HI.out hn8 HV.out hlt (by omega)).mono ?_; rintro e w3 ⟨rfl, hb3⟩; dsimp only; rw [HAB.out.1]; have HR3 : Hid (Bx w3 w.heap.size (.int .i64 xs.length) (.slice A xs.length c) ∧ Below w.heap.size w w3 ∧ InT w3 (.agg #[.int .i64 xs.length, .slice A xs.length c]) ⟨(xs.length : Int), xs⟩) := ⟨HR2.out.1.drew.below hb3, (below_drewL HR2.out.2).trans (hb3.mono HR2.out.2.size), HS.out.1.below ((below_drewL HR2.out.2).trans (hb3.mono HR2.out.2.size))⟩; clear hb3 q0 q1; obtain ⟨⟨q0, q1, -⟩, -⟩ := id HR3.out)
                    | (go_at_call 37; clear tok2; refine (implBeats_any _ ⟨(xs.length : Int), xs⟩ b a w3 HR3.out.2.2 hn8 HV.out (by show b < xs.length; omega) (by omega)).mono ?_; rintro e w4 ⟨rfl, hb4⟩; dsimp only; rw [HAB.out.2]; have HR4 : Hid (Bx w4 w.heap.size (.int .i64 xs.length) (.slice A xs.length c) ∧ Below w.heap.size w w4) := ⟨HR3.out.1.below hb4, HR3.out.2.1.trans (hb4.mono HR3.out.2.1.size)⟩; clear hb4 q0 q1; obtain ⟨⟨q0, q1, -⟩, -⟩ := id HR4.out))
                · go_wp2
                  go_ret
                  exact ⟨ret_bool (by rw [HO.out]; exact (rows_hit hlt (rowB_hit hlt2 (by rw [HAB.out.1, HAB.out.2]))).symm), HR4.out.2⟩
                · have HN : Hid (∀ b', b' < b + 1 → bt xs a b' ≠ bt xs b' a) := by
                    intro b' h
                    rcases Nat.eq_or_lt_of_le (Nat.le_of_lt_succ h) with rfl | h
                    · rw [HAB.out.1, HAB.out.2]; decide
                    · exact HBB.out b' h
                  go_wp2
                  go_roundw
                  all_goals first | exact ⟨b + 1, by omega, by go_num, HN, HR4⟩ | (simp [intOf]; try omega)
                · have HN : Hid (∀ b', b' < b + 1 → bt xs a b' ≠ bt xs b' a) := by
                    intro b' h
                    rcases Nat.eq_or_lt_of_le (Nat.le_of_lt_succ h) with rfl | h
                    · rw [HAB.out.1, HAB.out.2]; decide
                    · exact HBB.out b' h
                  go_wp2
                  go_roundw
                  all_goals first | exact ⟨b + 1, by omega, by go_num, HN, HR4⟩ | (simp [intOf]; try omega)
                · go_wp2
                  go_ret
                  exact ⟨ret_bool (by rw [HO.out]; exact (rows_hit hlt (rowB_hit hlt2 (by rw [HAB.out.1, HAB.out.2]))).symm), HR4.out.2⟩
              · obtain rfl : b = a := by omega
                cases haa : bt xs b b
                all_goals
                  have HAA := Lib.hid haa
                  clear haa
                  go_wp2_with (go_at_call 37; refine (implBeats_any _ ⟨(xs.length : Int), xs⟩ b b wr HI.out hn8 HV.out hlt (by omega)).mono ?_; rintro e w3 ⟨rfl, hb3⟩; dsimp only; rw [HAA.out]; have HR3 : Hid (Bx w3 w.heap.size (.int .i64 xs.length) (.slice A xs.length c) ∧ Below w.heap.size w w3) := ⟨HR2.out.1.below hb3, HR2.out.2.trans (hb3.mono HR2.out.2.size)⟩; clear hb3 q0 q1)
                · have HN : Hid (∀ a', a' < b + 1 → rowB xs a' = true) := by
                    intro a' h
                    rcases Nat.eq_or_lt_of_le (Nat.le_of_lt_succ h) with rfl | h
                    · exact rowB_all HBB.out HAA.out
                    · exact HA.out a' h
                  go_roundw
                  all_goals first | exact ⟨b + 1, by omega, by go_num, HN, HR3⟩ | (simp [intOf]; try omega)
                · go_ret
                  exact ⟨ret_bool (by rw [HO.out]; exact (rows_hit hlt (rowB_self HAA.out)).symm), HR3.out.2⟩
          · obtain rfl : a = xs.length := by omega
            go_wp2
            go_ret
            exact ⟨ret_bool (by rw [HO.out]; exact (rows_all HA.out).symm), HR.out.2⟩
    · have HO : Hid (tourB x = false) := tourB_len h2
      have h2' : ((x.wins.length : Int) == x.size) = false := by simpa using h2
      have h2'' : ((x.wins.length : Int) != x.size) = true := by simpa using h2
      go_enter Tryd.func24, Tryd.ntmps24
      go_wp2_with fail
      go_quiet ((go_at_call 35; exact quiet_left (within_any _ _ _ _)))
      go_wp2
      go_ret
      exact ⟨ret_bool (by rw [HO.out]), below_drewN ((Below.refl _ w).alloc (Nat.le_refl _) _) _⟩
end Go.Proofs.YtklhplifceedeaaDoor
