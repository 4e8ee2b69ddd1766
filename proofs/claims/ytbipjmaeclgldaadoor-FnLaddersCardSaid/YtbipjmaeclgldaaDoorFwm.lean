/- The fewest challenges: the program's map of steps, as it reads (plain). -/
import Derived.Test.YtbipjmaeclgldaaDoorFwu
import Derived.Test.YtbipjmaeclgldaaDoorFz
import Derived.Maps.OwnSet
import Derived.Maps.OwnOps
namespace Go.Proofs.YtbipjmaeclgldaaDoor
open Go.ChangeShapes Go.WideShapes Go.ChangeAt Go.RowKit

theorem itoa_dig {x : Int} (h : 0 ≤ x ∧ x < 8) : Lib.itoa x = [UInt8.ofNat (48 + x.toNat)] := by
  obtain ⟨u, rfl⟩ := Int.eq_ofNat_of_zero_le h.1
  rw [Lib.itoa_nonneg, Lib.decDigits_one (by omega)]; rfl
theorem dig_inj {x y : Int} (hx : 0 ≤ x ∧ x < 8) (hy : 0 ≤ y ∧ y < 8) (h : UInt8.ofNat (48 + x.toNat) = UInt8.ofNat (48 + y.toNat)) : x = y := by
  have h2 := congrArg UInt8.toNat h
  rw [UInt8.toNat_ofNat', UInt8.toNat_ofNat'] at h2
  omega
theorem join_dig {xs : List Int} (hx : ∀ x ∈ xs, 0 ≤ x ∧ x < 8) : ∀ {ys : List Int}, (∀ y ∈ ys, 0 ≤ y ∧ y < 8) → xs.length = ys.length → Lib.join (xs.map Lib.itoa) [44] = Lib.join (ys.map Lib.itoa) [44] → xs = ys := by
  induction xs with
  | nil => intro ys _ hl _; cases ys with
    | nil => rfl
    | cons y ys => simp at hl
  | cons x xs ih =>
    intro ys hy hl h
    cases ys with
    | nil => simp at hl
    | cons y ys =>
      have hx0 := hx x (by simp); have hy0 := hy y (by simp)
      have hl2 : xs.length = ys.length := by simpa using hl
      have key : x = y ∧ (xs = [] ∨ Lib.join (xs.map Lib.itoa) [44] = Lib.join (ys.map Lib.itoa) [44]) := by
        rw [List.map_cons, List.map_cons, itoa_dig hx0, itoa_dig hy0] at h
        cases xs with
        | nil =>
          cases ys with
          | nil =>
            simp only [List.map_nil, Lib.join] at h
            injection h with h _
            exact ⟨dig_inj hx0 hy0 h, .inl rfl⟩
          | cons z zs => simp at hl2
        | cons u us =>
          cases ys with
          | nil => simp at hl2
          | cons z zs =>
            simp only [List.map_cons, Lib.join] at h
            injection h with h1 h2
            injection h2 with _ h2
            exact ⟨dig_inj hx0 hy0 h1, .inr h2⟩
      obtain ⟨rfl, hk⟩ := key
      rcases hk with rfl | hk
      · have : ys = [] := by cases ys with
          | nil => rfl
          | cons z zs => simp at hl2
        rw [this]
      · rw [ih (fun z hz => hx z (by simp [hz])) (fun z hz => hy z (by simp [hz])) hl2 hk]
theorem fmt_inj {xs ys : List Int} (hx : ladB xs = true) (hy : ladB ys = true) (hl : xs.length = ys.length) (h : fmtF xs = fmtF ys) : xs = ys := by
  have h1 := (ladB_t hx).1.1; have h2 := (ladB_t hy).1.1
  unfold fmtF at h
  rw [if_neg (by rintro rfl; simp at h1), if_neg (by rintro rfl; simp at h2)] at h
  exact join_dig (lad_small hx) (lad_small hy) hl h
def keyS (x : List Int) : Lit := .string (fmtF x)
/-- The map of steps reads as the list. -/
structure MapL (L : BfsL) (D : DataW Unit) : Prop where
  im : Maps.IsMap D
  hit : ∀ x d, (x, d) ∈ L → D.atKey (keyS x) (.lit (.int .i64 0)) = .lit (.int .i64 (d : Int)) ∧ Maps.has D (keyS x) = true
  miss : ∀ x n, ladB x = true → x.length = n → GoodB n L → hasK L x = false → Maps.has D (keyS x) = false
theorem MapL.nil : MapL [] (.map []) := ⟨⟨_, rfl⟩, fun x d h => absurd h (by simp), fun x n _ _ _ _ => rfl⟩
theorem MapL.add {L : BfsL} {D : DataW Unit} {n d : Nat} {x : List Int} (h : MapL L D) (hg : GoodB n L) (hx : ladB x = true ∧ x.length = n) (hk : hasK L x = false) : MapL (L ++ [(x, d)]) (D.put (keyS x) (.lit (.int .i64 (d : Int)))) := by
  have hne : ∀ y, ladB y = true → y.length = n → y ≠ x → keyS y ≠ keyS x := fun y h1 h2 h3 e => by
    unfold keyS at e
    injection e with e
    exact h3 (fmt_inj h1 hx.1 (by rw [h2, hx.2]) e)
  have hK : WideAt.IsKeyLit (keyS x) := by trivial
  obtain ⟨es, hes⟩ := h.im
  refine ⟨by subst hes; exact ⟨_, rfl⟩, fun y e hy0 => ?_, fun y m h1 h2 h3 h4 => ?_⟩
  · rcases List.mem_append.1 hy0 with hy | hy
    · have hl := hg.lad _ hy
      simp only at hl
      have hyx : y ≠ x := by
        rintro rfl
        exact hasK_f.1 hk (List.mem_map.2 ⟨(y, e), hy, rfl⟩)
      have := hne y hl.1 hl.2 hyx
      rw [Maps.atKey_put_other this, Maps.has_put_other this]
      exact h.hit y e hy
    · simp only [List.mem_singleton, Prod.mk.injEq] at hy
      obtain ⟨rfl, rfl⟩ := hy
      exact ⟨Maps.atKey_put_same h.im hK _ _, Maps.has_put_same h.im hK _⟩
  · have hm : m = n := by
      have := h3.lad (x, d) (by simp)
      rw [← this.2]; exact hx.2
    subst hm
    have hyx : y ≠ x := by
      rintro rfl
      rw [hasK_of_mem (d := d) (by simp)] at h4; cases h4
    have h5 : hasK L y = false := by
      rw [← Bool.not_eq_true]
      intro e
      obtain ⟨d2, e⟩ := hasK_t.1 e
      rw [hasK_of_mem (d := d2) (List.mem_append_left _ e)] at h4; cases h4
    rw [Maps.has_put_other (hne y h1 h2 hyx)]
    exact h.miss y _ h1 h2 hg h5
end Go.Proofs.YtbipjmaeclgldaaDoor
