/- When a tour is valid: the reference's contract. -/
import Derived.Test.YtklhplifceedeaaDoorTq
namespace Go.Proofs.YtklhplifceedeaaDoor
open Go.ChangeShapes Go.WideShapes Go.ChangeAt Go.RowKit

theorem two_subW : ∀ k : Fin 9, wrap64 (wrap64 (2 ^ k.val) - 1) = (2 : Int) ^ k.val - 1 := by decide +kernel
theorem tourB_rows {x : TourV} (h : (List.range x.wins.length).all (rowB x.wins) = false) : tourB x = false := by simp [tourB, h]
theorem winsB_hit {n : Nat} {xs : List Int} {a : Nat} {y : Int} (h : xs[a]? = some y) (hy : inB y 0 (2 ^ n - 1) = false) : winsB n xs = false := List.all_eq_false.2 ⟨y, List.mem_of_getElem? h, by simp [hy]⟩
theorem winsB_of {n : Nat} {xs : List Int} (h : ∀ a, a < xs.length → inB (xs.getD a 0) 0 (2 ^ n - 1) = true) : winsB n xs = true := by
  rw [winsB, List.all_eq_true]
  intro y hy
  obtain ⟨a, ha⟩ := List.mem_iff_getElem?.1 hy
  have := h a (List.getElem?_eq_some_iff.1 ha).1
  rw [List.getD_eq_getElem?_getD, ha] at this
  exact this
theorem bound255 {n : Nat} {y : Int} (hn : n ≤ 8) (h : inB y 0 (2 ^ n - 1) = true) : 0 ≤ y ∧ y ≤ 255 := by
  obtain ⟨h2, h3⟩ := inB_t.1 h
  refine ⟨h2, ?_⟩
  have : ∀ n : Fin 9, (2 : Int) ^ n.val - 1 ≤ 255 := by decide
  have := this ⟨n, by omega⟩
  simp only at this
  omega
set_option maxHeartbeats 4000000 in
set_option maxRecDepth 100000 in
theorem specTourOk_any (v : Value) (x : TourV) (w : World) (hs : InT w v x) :
    Calls Tryd.prog 16 #[v] w fun e w' => e = .returned (.bool (tourB x)) ∧ Below w.heap.size w w' := by
  have hs0 := hs
  obtain ⟨u, rfl, A, c, rfl, hc, hm, hsl⟩ := hs
  have HS := Lib.hid (And.intro hs0 hsl)
  unfold maxLen at hm
  clear hs0 hsl
  cases h1 : inB x.size 1 8
  · have HO : Hid (tourB x = false) := tourB_size h1
    go_enter Tryd.func16, Tryd.ntmps16
    go_wp2_with (go_at_call 30; refine (l01In_any _ _ _ _).mono ?_; rintro e w' ⟨rfl, rfl⟩; rw [h1])
    go_ret
    exact ⟨ret_bool (by rw [HO.out]), (Below.refl _ w).alloc (Nat.le_refl _) _⟩
  · by_cases h2 : (x.wins.length : Int) = x.size
    · obtain ⟨hs1, hs2⟩ := inB_t.1 h1
      obtain ⟨sz, xs⟩ := x
      simp only at h1 h2 hs1 hs2 HS hc
      subst h2
      have hn8 : xs.length ≤ 8 := by omega
      have HTW : Hid (wrap64 (wrap64 (2 ^ xs.length) - 1) = (2 : Int) ^ xs.length - 1) := two_subW ⟨xs.length, by omega⟩
      go_enter Tryd.func16, Tryd.ntmps16
      go_upto_region 3 with (go_at_call 30; refine (l01In_any _ _ _ _).mono ?_; rintro e w' ⟨rfl, rfl⟩; rw [h1])
      go_wp2_with fail
      clear h1
      go_loopw [21] (fun i wr => ∃ a : Nat, a ≤ xs.length ∧ i = .int .i64 a ∧ Hid (∀ a', a' < a → inB (xs.getD a' 0) 0 (2 ^ xs.length - 1) = true ∧ rowB xs a' = true) ∧ Hid (Bx wr w.heap.size (.int .i64 xs.length) (.slice A xs.length c) ∧ Below w.heap.size w wr)) (fun i _ => xs.length - (intOf i).toNat)
      case atStart => exact ⟨0, Nat.zero_le _, rfl, fun a' h => absurd h (Nat.not_lt_zero _), ⟨by simp, by simp, by simp⟩, (Below.refl _ w).alloc (Nat.le_refl _) _⟩
      case round =>
        obtain ⟨a, ha, rfl, HA, HR⟩ := hrel
        obtain ⟨wo, rfl⟩ : ∃ W, W = wr := ⟨wr, rfl⟩
        by_cases hlt : a < xs.length
        · obtain ⟨⟨q0, q1, q2⟩, -⟩ := id HR.out
          obtain ⟨bk, off, y, rfl, hy, c1, -⟩ := (HS.out.2.below HR.out.2).at_ hlt
          have HG : Hid (xs.getD a 0 = y) := by show _ = _; rw [List.getD_eq_getElem?_getD, hy]; rfl
          have HY := Lib.hid hy
          clear hy
          cases hi : inB y 0 (2 ^ xs.length - 1)
          · have HO : Hid (tourB ⟨(xs.length : Int), xs⟩ = false) := tourB_wins (winsB_hit HY.out hi)
            go_wp2_with (go_at_call 30; rw [HTW.out]; refine (l01In_any _ _ _ _).mono ?_; rintro e w' ⟨rfl, rfl⟩; rw [hi])
            go_ret
            exact ⟨ret_bool (by rw [HO.out]), HR.out.2⟩
          · obtain ⟨y1, y2⟩ := bound255 hn8 hi
            have e1 := bit_at (b := a) y1 y2 (by omega)
            have HB : Hid (∀ b, bt xs a b = y.toNat.testBit b) := fun b => by rw [bt, HG.out]
            have hself : bt xs a a = y.toNat.testBit a := HB.out a
            rw [← hself] at e1
            clear hself
            cases haa : bt xs a a
            all_goals
              have HAA := Lib.hid haa
              rw [haa] at e1
              simp only [Bool.false_eq_true, if_true, if_false] at e1
              clear haa
            · go_wp2_with (go_at_call 30; rw [HTW.out]; refine (l01In_any _ _ _ _).mono ?_; rintro e w' ⟨rfl, rfl⟩; rw [hi])
              clear e1
              go_loopw [5] (fun i wr => ∃ b : Nat, b ≤ a ∧ i = .int .i64 b ∧ Hid (∀ b', b' < b → bt xs a b' ≠ bt xs b' a) ∧ Hid (Bx wr w.heap.size (.int .i64 xs.length) (.slice (some ⟨bk, off, none⟩) xs.length c) ∧ Below w.heap.size w wr)) (fun i _ => a - (intOf i).toNat)
              case atStart => exact ⟨0, Nat.zero_le _, rfl, fun b' h => absurd h (Nat.not_lt_zero _), HR⟩
              case round =>
                obtain ⟨b, hb, rfl, HBB, HR2⟩ := hrel
                clear HR q0 q1 q2 c1
                obtain ⟨⟨q0, q1, q2⟩, -⟩ := id HR2.out
                by_cases hlt2 : b < a
                · obtain ⟨bk', off', z, hA, hz, c2, -⟩ := (HS.out.2.below HR2.out.2).at_ (k := b) (by omega)
                  injection hA with hA
                  injection hA with e3 e4 _
                  subst e3; subst e4
                  obtain ⟨z1, z2⟩ := bound255 hn8 (HA.out b hlt2).1
                  have HGZ : Hid (xs.getD b 0 = z) := by show _ = _; rw [List.getD_eq_getElem?_getD, hz]; rfl
                  rw [HGZ.out] at z1 z2
                  have e1 := bit_at (b := b) y1 y2 (by omega)
                  have e2 := bit_at (b := a) z1 z2 (by omega)
                  rw [← HB.out b] at e1
                  rw [show z.toNat.testBit a = bt xs b a from by rw [bt, HGZ.out]] at e2
                  have i1 : (0 : Int) ≤ (b : Int) := by omega
                  have i2 : (b : Int) < (xs.length : Int) := by omega
                  clear hz
                  cases hab : bt xs a b <;> cases hba : bt xs b a
                  all_goals
                    have HAB := Lib.hid (And.intro hab hba)
                    rw [hab] at e1
                    rw [hba] at e2
                    simp only [Bool.false_eq_true, if_true, if_false] at e1 e2
                    clear hab hba
                    go_upto_region 11 with (fail)
                  · go_quiet (fail)
                    go_wp2
                    go_ret
                    exact ⟨ret_bool (by exact (tourB_rows (rows_hit hlt (rowB_hit hlt2 (by rw [HAB.out.1, HAB.out.2])))).symm), below_drewN HR2.out.2 _⟩
                  · have HN : Hid (∀ b', b' < b + 1 → bt xs a b' ≠ bt xs b' a) := by
                      intro b' h
                      rcases Nat.eq_or_lt_of_le (Nat.le_of_lt_succ h) with rfl | h
                      · rw [HAB.out.1, HAB.out.2]; decide
                      · exact HBB.out b' h
                    go_quiet (fail)
                    go_wp2
                    go_roundw
                    all_goals first | exact ⟨b + 1, by omega, by go_num, HN, HR2.out.1, below_drewN HR2.out.2 _⟩ | (simp [intOf]; try omega)
                  · have HN : Hid (∀ b', b' < b + 1 → bt xs a b' ≠ bt xs b' a) := by
                      intro b' h
                      rcases Nat.eq_or_lt_of_le (Nat.le_of_lt_succ h) with rfl | h
                      · rw [HAB.out.1, HAB.out.2]; decide
                      · exact HBB.out b' h
                    go_quiet (fail)
                    go_wp2
                    go_roundw
                    all_goals first | exact ⟨b + 1, by omega, by go_num, HN, HR2.out.1, below_drewN HR2.out.2 _⟩ | (simp [intOf]; try omega)
                  · go_quiet (fail)
                    go_wp2
                    go_ret
                    exact ⟨ret_bool (by exact (tourB_rows (rows_hit hlt (rowB_hit hlt2 (by rw [HAB.out.1, HAB.out.2])))).symm), below_drewN HR2.out.2 _⟩
                · obtain rfl : b = a := by omega
                  have HN : Hid (∀ a', a' < b + 1 → inB (xs.getD a' 0) 0 (2 ^ xs.length - 1) = true ∧ rowB xs a' = true) := by
                    intro a' h
                    rcases Nat.eq_or_lt_of_le (Nat.le_of_lt_succ h) with rfl | h
                    · exact ⟨by rw [HG.out]; exact hi, rowB_all HBB.out HAA.out⟩
                    · exact HA.out a' h
                  go_wp2
                  go_roundw
                  all_goals first | exact ⟨b + 1, by omega, by go_num, HN, HR2⟩ | (simp [intOf]; try omega)
            · have HO : Hid (tourB ⟨(xs.length : Int), xs⟩ = false) := tourB_rows (rows_hit hlt (rowB_self HAA.out))
              go_wp2_with (go_at_call 30; rw [HTW.out]; refine (l01In_any _ _ _ _).mono ?_; rintro e w' ⟨rfl, rfl⟩; rw [hi])
              go_ret
              exact ⟨ret_bool (by rw [HO.out]), HR.out.2⟩
        · obtain rfl : a = xs.length := by omega
          have HO : Hid (tourB ⟨(xs.length : Int), xs⟩ = true) := by
            have h := tourB_go (x := ⟨(xs.length : Int), xs⟩) (by show inB _ _ _ = true; exact inB_mk hs1 hs2) rfl (winsB_of fun a ha => (HA.out a ha).1)
            show _ = _
            rw [h]; exact rows_all fun a ha => (HA.out a ha).2
          go_wp2
          go_ret
          exact ⟨ret_bool (by rw [HO.out]), HR.out.2⟩
    · have HO : Hid (tourB x = false) := tourB_len h2
      have h2' : ((x.wins.length : Int) == x.size) = false := by simpa using h2
      have h2'' : ((x.wins.length : Int) != x.size) = true := by simpa using h2
      go_enter Tryd.func16, Tryd.ntmps16
      go_wp2_with (go_at_call 30; refine (l01In_any _ _ _ _).mono ?_; rintro e w' ⟨rfl, rfl⟩; rw [h1])
      go_ret
      exact ⟨ret_bool (by rw [HO.out]), (Below.refl _ w).alloc (Nat.le_refl _) _⟩
end Go.Proofs.YtklhplifceedeaaDoor
