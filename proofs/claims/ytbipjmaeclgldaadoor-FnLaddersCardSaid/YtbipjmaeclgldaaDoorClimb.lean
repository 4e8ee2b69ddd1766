/- Many challenges on a ladder: contracts. -/
import Derived.Test.YtbipjmaeclgldaaDoorAfter
namespace Go.Proofs.YtbipjmaeclgldaaDoor
open Go.ChangeShapes Go.WideShapes Go.ChangeAt Go.RowKit

/-- How many leading places of n hold p. -/
def stopAt (p : Nat → Bool) : Nat → Nat
  | 0 => 0
  | n + 1 => if stopAt p n = n ∧ p n = true then n + 1 else stopAt p n
theorem stopAt_all {p : Nat → Bool} : ∀ {n : Nat}, (∀ k, k < n → p k = true) → stopAt p n = n
  | 0, _ => rfl
  | n + 1, h => by
    rw [stopAt, if_pos ⟨stopAt_all fun k hk => h k (by omega), h n (by omega)⟩]
theorem stopAt_hit {p : Nat → Bool} {j : Nat} (h : ∀ k, k < j → p k = true) (hj : p j = false) : ∀ {n : Nat}, j < n → stopAt p n = j
  | n + 1, hn => by
    rw [stopAt]
    by_cases e : j = n
    · subst e
      rw [stopAt_all h, if_neg (by simp [hj])]
    · have ih := stopAt_hit h hj (n := n) (by omega)
      rw [if_neg (by rw [ih]; simp [e]), ih]
theorem all_snoc {p : Nat → Bool} {j : Nat} (h : ∀ k, k < j → p k = true) (hj : p j = true) (k : Nat) (hk : k < j + 1) : p k = true := by
  rcases Nat.lt_or_ge k j with h' | h'
  · exact h k h'
  · obtain rfl : k = j := by omega
    exact hj
def nowU (l : List Int) (r : Int) (gs : List (List Int)) : Nat → List Int
  | 0 => l
  | j + 1 => chalF (nowU l r gs j) r (gs.getD j [])
def okU (l : List Int) (r : Int) (gs : List (List Int)) (j : Nat) : Bool := chOk (nowU l r gs j) r (gs.getD j [])
theorem nowU_len {l : List Int} {r : Int} {gs : List (List Int)} {m : Nat} (h : l.length ≤ m) : ∀ j, (nowU l r gs j).length ≤ m
  | 0 => h
  | j + 1 => chalF_len (nowU_len h j)
def climbOk (l : List Int) (r : Int) (gs : List (List Int)) : Bool := ladB l && (inB r 1 7 && decide (gs.length ≤ 40))
def climbI (l : List Int) (r : Int) (gs : List (List Int)) : Int := if climbOk l r gs then (stopAt (okU l r gs) gs.length : Nat) else -1
def climbF (l : List Int) (r : Int) (gs : List (List Int)) : List Int := if climbOk l r gs then nowU l r gs (stopAt (okU l r gs) gs.length) else []
set_option maxHeartbeats 2000000 in
theorem implClimbLadder_std (vl : Value) (l : List Int) (r : Int) (vg : Value) (gs : List (List Int)) (w : World) (hl : InI w vl l) (nl : l.length ≤ 1048576) (_hr : (Lit.int .i64 r).wf = true) (hg : InS w vg gs) (ng : bulk gs ≤ 1048576) :
    Calls Tryd.prog 16 #[vl, .int .i64 r, vg] w fun e w' => ∃ v', e = .returned (.tuple #[v', .int .i64 (climbI l r gs)]) ∧ Fr w' w.heap.size w'.heap.size v' (climbF l r gs) ∧ Below w.heap.size w w' := by
  obtain ⟨A, c, rfl, hc, hm, hs⟩ := hl
  have hg0 := hg
  obtain ⟨G, d, vs, rfl, hvl, hd, hmd, -, -⟩ := hg
  have HL := Lib.hid (implLadderOk_any A c l w hs nl hc)
  have HS := Lib.hid (And.intro hs hg0)
  clear hs hg0 hvl
  have NG := Lib.hid ng
  have ngl := bulk_len gs
  generalize hn : gs.length = n at *
  have HN := Lib.hid hn
  clear hn ng

  cases h1 : ladB l
  case false =>
    have HO : Hid (climbI l r gs = -1 ∧ climbF l r gs = []) := by constructor <;> simp [climbI, climbF, climbOk, h1]
    go_enter Tryd.func16, Tryd.ntmps16
    go_wp2_with fail
    refine HL.out.mono ?_
    rintro e w1 ⟨rfl, rfl⟩
    rw [h1]
    have B1 : Hid (Below w.heap.size w w) := Below.refl _ _
    go_wp2
    go_ret2
    exact ⟨_, by rw [HO.out.1]; rfl, by rw [HO.out.2]; exact Fr.nil _ (Nat.le_refl _), B1.out⟩
  cases h2 : inB r 1 7
  case false =>
    have HO : Hid (climbI l r gs = -1 ∧ climbF l r gs = []) := by constructor <;> simp [climbI, climbF, climbOk, h2]
    go_enter Tryd.func16, Tryd.ntmps16
    go_wp2_with fail
    refine HL.out.mono ?_
    rintro e w1 ⟨rfl, rfl⟩
    rw [h1]
    have B1 : Hid (Below w.heap.size w w) := Below.refl _ _
    go_wp2_with (go_at_call 26; refine (within_any _ _ _ _).mono ?_; rintro e w' ⟨rfl, rfl⟩)
    go_ret2
    exact ⟨_, by rw [HO.out.1]; rfl, by rw [HO.out.2]; exact Fr.nil _ (Nat.le_refl _), B1.out⟩
  by_cases h3 : n ≤ 40
  case neg =>
    have HO : Hid (climbI l r gs = -1 ∧ climbF l r gs = []) := by constructor <;> simp [climbI, climbF, climbOk, HN.out, h3]
    go_enter Tryd.func16, Tryd.ntmps16
    go_wp2_with fail
    refine HL.out.mono ?_
    rintro e w1 ⟨rfl, rfl⟩
    rw [h1]
    have B1 : Hid (Below w.heap.size w w) := Below.refl _ _
    go_wp2_with (go_at_call 26; refine (within_any _ _ _ _).mono ?_; rintro e w' ⟨rfl, rfl⟩)
    go_ret2
    exact ⟨_, by rw [HO.out.1]; rfl, by rw [HO.out.2]; exact Fr.nil _ (Nat.le_refl _), B1.out⟩
  have HO : Hid (climbI l r gs = (stopAt (okU l r gs) n : Nat) ∧ climbF l r gs = nowU l r gs (stopAt (okU l r gs) n)) := by constructor <;> simp [climbI, climbF, climbOk, h1, h2, HN.out, h3]
  have H2 := Lib.hid h2
  have nl1 := (ladB_t h1).1
  have LL : Hid (ladB l = true) := h1
  clear h1 h2
  go_enter Tryd.func16, Tryd.ntmps16
  go_wp2_with fail
  refine HL.out.mono ?_
  rintro e w1 ⟨rfl, rfl⟩
  rw [LL.out]
  have B1 : Hid (Below w.heap.size w w) := Below.refl _ _
  go_wp2_with (go_at_call 26; refine (within_any _ _ _ _).mono ?_; rintro e w' ⟨rfl, rfl⟩)
  refine (cloneI_any A c l w HS.out.1 nl).mono ?_
  rintro e w2 ⟨A2, k2, rfl, hf2, hb2⟩
  have F2 : Hid (Fr w2 w.heap.size w2.heap.size (.slice A2 l.length k2) l ∧ Below w.heap.size w w2) := ⟨hf2, hb2⟩
  clear hf2 hb2
  go_wp2
  clear HL B1
  go_loopw [8, 30] (fun v i wr => ∃ (j : Nat) (fv : Value), j ≤ n ∧ i = .int .i64 j ∧ fv = v ∧ Hid (∀ k, k < j → okU l r gs k = true) ∧ Hid (Fr wr w.heap.size wr.heap.size fv (nowU l r gs j) ∧ Below w.heap.size w wr)) (fun _ i _ => n - (intOf i).toNat)
  case atStart => exact ⟨0, _, Nat.zero_le _, rfl, rfl, fun k hk => absurd hk (Nat.not_lt_zero _), F2.out⟩
  case round =>
    obtain ⟨j, fv, hj, rfl, rfl, HT, HR⟩ := hrel
    clear F2
    by_cases hlt : j < n
    · obtain ⟨b, off, u, xs, rfl, hu, hcell, hin, _⟩ := (HS.out.2.below (HR.out.2)).at_ (k := j) (by rw [HN.out]; exact hlt)
      have HX : Hid (gs.getD j [] = xs) := by show _ = _; rw [List.getD_eq_getElem?_getD, hu]; rfl
      have HI := Lib.hid hin
      have hxl := bulk_row hu
      have hxn : xs.length ≤ 1048576 := Nat.le_trans hxl NG.out
      clear hu hin hxl
      have hC := Lib.hid (implAfterChallenge_std fv (nowU l r gs j) r u xs wr HR.out.1.in_ (nowU_len nl j) _hr HI.out hxn)
      have HK : Hid (okU l r gs j = chOk (nowU l r gs j) r xs ∧ nowU l r gs (j + 1) = chalF (nowU l r gs j) r xs) := by constructor <;> simp only [okU, nowU, HX.out]
      go_wp2_with fail
      refine hC.out.mono ?_
      rintro e w3 ⟨v3, rfl, hf3, hb3⟩
      have F3 : Hid (Fr w3 w.heap.size w3.heap.size v3 (nowU l r gs (j + 1)) ∧ Below w.heap.size w w3) := ⟨by rw [HK.out.2]; exact hf3.wide HR.out.2.size (Nat.le_refl _) (Nat.le_refl _), HR.out.2.trans (hb3.mono HR.out.2.size)⟩
      have G3 : Hid (Fr w3 w.heap.size w3.heap.size fv (nowU l r gs j)) := (HR.out.1.grow hb3).wide (Nat.le_refl _) hb3.size (Nat.le_refl _)
      clear hf3 hb3 hC
      cases hk : chOk (nowU l r gs j) r xs
      · have HZ : Hid (stopAt (okU l r gs) n = j) := stopAt_hit HT.out (by rw [HK.out.1, hk]) hlt
        go_wp2
        go_ret2
        exact ⟨_, by rw [HO.out.1, HZ.out]; rfl, by rw [HO.out.2, HZ.out]; exact G3.out, F3.out.2⟩
      · go_wp2
        go_roundw
        all_goals first | exact ⟨j + 1, v3, by omega, by go_num, rfl, all_snoc HT.out (by rw [HK.out.1]; exact hk), F3.out⟩ | (simp [intOf]; omega)
    · obtain rfl : j = n := by omega
      have HZ : Hid (stopAt (okU l r gs) j = j) := stopAt_all HT.out
      go_wp2
      go_ret2
      exact ⟨_, by rw [HO.out.1, HZ.out]; rfl, by rw [HO.out.2, HZ.out]; exact HR.out.1, HR.out.2⟩
end Go.Proofs.YtbipjmaeclgldaaDoor
