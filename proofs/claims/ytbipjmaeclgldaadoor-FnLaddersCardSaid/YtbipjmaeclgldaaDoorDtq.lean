/- Tours that are flipped: plain facts. -/
import Derived.Test.YtbipjmaeclgldaaDoorMbf
namespace Go.Proofs.YtbipjmaeclgldaaDoor
open Go.ChangeShapes Go.WideShapes Go.ChangeAt Go.RowKit

/-- Names: an order of the players. -/
structure Nm (ns : List Int) (n : Nat) : Prop where
  len : ns.length = n
  rng : ∀ (i : Nat) (y : Int), ns[i]? = some y → 0 ≤ y ∧ y < n
  inj : ∀ (i j : Nat) (y : Int), ns[i]? = some y → ns[j]? = some y → i = j
def nmA (ns : List Int) (i : Nat) : Nat := (ns.getD i 0).toNat
theorem Nm.lt {ns : List Int} {n i : Nat} (h : Nm ns n) (hi : i < n) : ns[i]? = some (nmA ns i : Int) ∧ nmA ns i < n := by
  obtain ⟨y, hy⟩ : ∃ y, ns[i]? = some y := ⟨_, List.getElem?_eq_getElem (show i < ns.length by rw [h.len]; exact hi)⟩
  have hr := h.rng i y hy
  have e : nmA ns i = y.toNat := by rw [nmA, List.getD_eq_getElem?_getD, hy]; rfl
  rw [e, Int.toNat_of_nonneg hr.1]
  exact ⟨hy, by omega⟩
theorem Nm.ij {ns : List Int} {n i j : Nat} (h : Nm ns n) (hi : i < n) (hj : j < n) (e : nmA ns i = nmA ns j) : i = j :=
  h.inj i j _ (h.lt hi).1 (by rw [e]; exact (h.lt hj).1)
/-- The wins under other names: the pairs ahead of (a, b) are carried over, no others. -/
structure RnT (x : TourV) (ns out : List Int) (n a b : Nat) : Prop where
  len : out.length = n
  ge : ∀ w ∈ out, 0 ≤ w
  hi : ∀ i j, i < n → n ≤ j → bt out i j = false
  at_ : ∀ p q, p < n → q < n → bt out (nmA ns p) (nmA ns q) = (bt x.wins p q && decide (p < a ∨ (p = a ∧ q < b)))
theorem RnT.start {x : TourV} {ns : List Int} (n : Nat) : RnT x ns (List.replicate n 0) n 0 0 := by
  have h0 : ∀ i j, bt (List.replicate n 0) i j = false := by
    intro i j
    have e : (List.replicate n (0 : Int)).getD i 0 = 0 := by
      rw [List.getD_eq_getElem?_getD, List.getElem?_replicate]; split <;> rfl
    rw [bt, e]; simp
  exact ⟨by simp, fun w hw => by rw [(List.mem_replicate.1 hw).2]; exact Int.le_refl _, fun i j _ _ => h0 i j, fun p q _ _ => by rw [h0]; simp⟩
theorem RnT.next {x : TourV} {ns out : List Int} {n a : Nat} (h : RnT x ns out n a n) : RnT x ns out n (a + 1) 0 :=
  ⟨h.len, h.ge, h.hi, fun p q hp hq => by rw [h.at_ p q hp hq]; congr 1; exact decide_eq_decide.2 (by omega)⟩
theorem RnT.no {x : TourV} {ns out : List Int} {n a b : Nat} (h : RnT x ns out n a b) (hb : bt x.wins a b = false) : RnT x ns out n a (b + 1) := by
  refine ⟨h.len, h.ge, h.hi, fun p q hp hq => ?_⟩
  rw [h.at_ p q hp hq]
  by_cases e : p = a ∧ q = b
  · obtain ⟨rfl, rfl⟩ := e; rw [hb]; rfl
  · congr 1; exact decide_eq_decide.2 (by omega)
theorem Nm.onto {ns : List Int} {n i : Nat} (h : Nm ns n) (hi : i < n) : ∃ p, p < n ∧ nmA ns p = i := by
  refine Classical.byContradiction fun hno => ?_
  have h1 := len_sub ((List.range n).map (nmA ns)) ((List.range n).erase i) ?_ (fun y hy => by
    obtain ⟨p, hp, e⟩ := List.mem_map.1 hy
    have hp' := List.mem_range.1 hp
    have hne : y ≠ i := fun e2 => hno ⟨p, hp', e.trans e2⟩
    exact (List.mem_erase_of_ne hne).2 (List.mem_range.2 (by rw [← e]; exact (h.lt hp').2)))
  · rw [List.length_map, List.length_erase_of_mem (List.mem_range.2 hi), List.length_range] at h1
    omega
  · rw [List.nodup_iff_pairwise_ne, List.pairwise_map]
    refine List.Pairwise.imp_of_mem ?_ (List.nodup_iff_pairwise_ne.1 List.nodup_range)
    intro a b ha hb hab e
    exact hab (h.ij (List.mem_range.1 ha) (List.mem_range.1 hb) e)
theorem RnT.ok {x : TourV} {ns out : List Int} {n : Nat} (hok : tourB x = true) (hxn : x.wins.length = n) (hm : Nm ns n) (h : RnT x ns out n n 0) : tourB ⟨x.size, out⟩ = true := by
  obtain ⟨t1, t2, t3, t4, t5⟩ := tourB_t hok
  have hn8 : n ≤ 8 := by omega
  have hl := h.len
  have hb : ∀ p q, p < n → q < n → bt out (nmA ns p) (nmA ns q) = bt x.wins p q := fun p q hp hq => by
    rw [h.at_ p q hp hq, decide_eq_true (show p < n ∨ (p = n ∧ q < 0) by omega), Bool.and_true]
  have hwb : winsB out.length out = true := by
    unfold winsB
    rw [List.all_eq_true]
    intro w hw
    obtain ⟨i, hi, e⟩ := List.mem_iff_getElem.1 hw
    have hlt : w.toNat < 2 ^ n := lt_bits (fun j hj => by
      have h2 := h.hi i j (by omega) hj
      rw [bt, List.getD_eq_getElem?_getD, List.getElem?_eq_getElem hi, e] at h2
      exact h2)
    have h3 : (2 : Int) ^ out.length = ((2 ^ n : Nat) : Int) := by rw [hl, Int.natCast_pow]; rfl
    have := h.ge w hw
    rw [inB_t, h3]
    omega
  rw [tourB_go (x := ⟨x.size, out⟩) (inB_t.2 ⟨t1, t2⟩) (by show (out.length : Int) = x.size; rw [hl, ← hxn]; exact t3) hwb]
  refine rows_all (fun i hi => ?_)
  have hi' : i < n := by have h4 : i < out.length := hi; omega
  obtain ⟨p, hp, rfl⟩ := hm.onto hi'
  refine rowB_all (fun j hj => ?_) ?_
  · obtain ⟨q, hq, rfl⟩ := hm.onto (show j < n by omega)
    show bt out (nmA ns p) (nmA ns q) ≠ bt out (nmA ns q) (nmA ns p)
    rw [hb p q hp hq, hb q p hq hp]
    exact tourB_anti hok (by omega) (by omega) (fun e => by subst e; omega)
  · show bt out (nmA ns p) (nmA ns p) = false
    rw [hb p p hp hp]
    exact tourB_irr hok (by omega)
end Go.Proofs.YtbipjmaeclgldaaDoor
