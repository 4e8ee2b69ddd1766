/- Tours: when a tour is valid; who beats whom. -/
import Derived.Test.YtklhplifceedeaaDoorTour
import Derived.Test.YtklhplifceedeaaDoorTools
import Derived.Deep.RegionHeld3
import Derived.Deep.Cut
import Derived.Deep.CutRange
namespace Go.Proofs.YtklhplifceedeaaDoor
open Go.ChangeShapes Go.WideShapes Go.ChangeAt Go.RowKit

/-- Whether a beats b. -/
def bt (xs : List Int) (a b : Nat) : Bool := (xs.getD a 0).toNat.testBit b
def rowB (xs : List Int) (a : Nat) : Bool := (List.range a).all (fun b => bt xs a b != bt xs b a) && !bt xs a a
def winsB (n : Nat) (xs : List Int) : Bool := xs.all fun w => inB w 0 (2 ^ n - 1)
def tourB (x : TourV) : Bool := inB x.size 1 8 && (decide ((x.wins.length : Int) = x.size) && (winsB x.wins.length x.wins && (List.range x.wins.length).all (rowB x.wins)))
theorem bit_and : ∀ w : Fin 256, ∀ b : Fin 8, bits BinOp.and IntKind.i64 ((w.val : Int) / 2 ^ b.val) 1 = if w.val.testBit b.val then 1 else 0 := by decide +kernel
theorem bit_at {w : Int} {b : Nat} (h1 : 0 ≤ w) (h2 : w ≤ 255) (hb : b ≤ 7) : bits BinOp.and IntKind.i64 (w / 2 ^ b) 1 = if w.toNat.testBit b then 1 else 0 := by
  have h := bit_and ⟨w.toNat, by omega⟩ ⟨b, by omega⟩
  simp only [Int.toNat_of_nonneg h1] at h
  exact h
theorem tourB_size {x : TourV} (h : inB x.size 1 8 = false) : tourB x = false := by simp [tourB, h]
theorem tourB_len {x : TourV} (h : ¬ (x.wins.length : Int) = x.size) : tourB x = false := by simp [tourB, h]
theorem tourB_wins {x : TourV} (h : winsB x.wins.length x.wins = false) : tourB x = false := by simp [tourB, h]
theorem tourB_go {x : TourV} (h1 : inB x.size 1 8 = true) (h2 : (x.wins.length : Int) = x.size) (h3 : winsB x.wins.length x.wins = true) : tourB x = (List.range x.wins.length).all (rowB x.wins) := by simp [tourB, h1, h2, h3]
theorem tourB_t {x : TourV} (h : tourB x = true) : 1 ≤ x.size ∧ x.size ≤ 8 ∧ (x.wins.length : Int) = x.size ∧ winsB x.wins.length x.wins = true ∧ ∀ a, a < x.wins.length → rowB x.wins a = true := by
  unfold tourB at h
  simp only [Bool.and_eq_true, decide_eq_true_eq, List.all_eq_true, List.mem_range] at h
  obtain ⟨h1, h2, h3, h4⟩ := h
  exact ⟨(inB_t.1 h1).1, (inB_t.1 h1).2, h2, h3, h4⟩
theorem winsB_at {n : Nat} {xs : List Int} {a : Nat} {w : Int} (hn : n ≤ 8) (h : winsB n xs = true) (ha : xs[a]? = some w) : 0 ≤ w ∧ w ≤ 255 := by
  have h1 := List.all_eq_true.1 h w (List.mem_of_getElem? ha)
  obtain ⟨h2, h3⟩ := inB_t.1 h1
  refine ⟨h2, ?_⟩
  have : ∀ n : Fin 9, (2 : Int) ^ n.val - 1 ≤ 255 := by decide
  have := this ⟨n, by omega⟩
  simp only at this
  omega
theorem rowB_hit {xs : List Int} {a b : Nat} (hb : b < a) (h : bt xs a b = bt xs b a) : rowB xs a = false := by
  unfold rowB
  rw [Bool.and_eq_false_iff]
  exact .inl (List.all_eq_false.2 ⟨b, List.mem_range.2 hb, by simp [h]⟩)
theorem rowB_self {xs : List Int} {a : Nat} (h : bt xs a a = true) : rowB xs a = false := by simp [rowB, h]
theorem rowB_all {xs : List Int} {a : Nat} (h1 : ∀ b, b < a → bt xs a b ≠ bt xs b a) (h2 : bt xs a a = false) : rowB xs a = true := by
  unfold rowB
  rw [Bool.and_eq_true, List.all_eq_true]
  exact ⟨fun b hb => by simpa using h1 b (List.mem_range.1 hb), by simp [h2]⟩
theorem rows_hit {xs : List Int} {a n : Nat} (ha : a < n) (h : rowB xs a = false) : (List.range n).all (rowB xs) = false := List.all_eq_false.2 ⟨a, List.mem_range.2 ha, by simp [h]⟩
theorem rows_all {xs : List Int} {n : Nat} (h : ∀ a, a < n → rowB xs a = true) : (List.range n).all (rowB xs) = true := by
  rw [List.all_eq_true]; exact fun a ha => h a (List.mem_range.1 ha)
theorem tourB_anti {x : TourV} (h : tourB x = true) {a b : Nat} (ha : a < x.wins.length) (hb : b < x.wins.length) (hne : a ≠ b) : bt x.wins a b ≠ bt x.wins b a := by
  obtain ⟨_, _, _, _, h5⟩ := tourB_t h
  have key : ∀ a b, a < x.wins.length → b < a → bt x.wins a b ≠ bt x.wins b a := by
    intro a b ha hb
    have h6 := h5 a ha
    unfold rowB at h6
    rw [Bool.and_eq_true, List.all_eq_true] at h6
    simpa using h6.1 b (List.mem_range.2 hb)
  rcases Nat.lt_or_gt_of_ne hne with h6 | h6
  · exact (key b a hb h6).symm
  · exact key a b ha h6
theorem tourB_irr {x : TourV} (h : tourB x = true) {a : Nat} (ha : a < x.wins.length) : bt x.wins a a = false := by
  obtain ⟨_, _, _, _, h5⟩ := tourB_t h
  have h6 := h5 a ha
  unfold rowB at h6
  rw [Bool.and_eq_true] at h6
  simpa using h6.2

set_option maxRecDepth 100000 in
theorem implBeats_any (v : Value) (x : TourV) (a b : Nat) (w : World) (hs : InT w v x) (hn : x.wins.length ≤ 8) (hwb : winsB x.wins.length x.wins = true) (ha : a < x.wins.length) (hb : b ≤ 7) :
    Calls Tryd.prog 37 #[v, .int .i64 a, .int .i64 b] w fun e w' => e = .returned (.bool (bt x.wins a b)) ∧ Below w.heap.size w w' := by
  obtain ⟨u, rfl, A, c, rfl, hc, hm, hsl⟩ := hs
  obtain ⟨bk, off, y, rfl, hy, c1, hlt⟩ := hsl.at_ ha
  obtain ⟨h1, h2⟩ := winsB_at hn hwb hy
  have e1 := bit_at h1 h2 hb
  have HB : Hid (bt x.wins a b = y.toNat.testBit b) := by show _ = _; rw [bt, List.getD_eq_getElem?_getD, hy]; rfl
  have hne : ¬ bk = w.heap.size := by omega
  clear hsl hy
  cases ht : y.toNat.testBit b
  all_goals
    have HT := Lib.hid ht
    rw [ht] at e1
    simp only [Bool.false_eq_true, if_true, if_false] at e1
    clear ht
    go_enter Tryd.func37, Tryd.ntmps37
    go_wp2
    go_ret
    exact ⟨ret_bool (by rw [HB.out, HT.out]), (Below.refl _ w).alloc (Nat.le_refl _) _⟩

set_option maxRecDepth 100000 in
theorem specBeats_any (v : Value) (x : TourV) (a b : Nat) (w : World) (hs : InT w v x) (hn : x.wins.length ≤ 8) (hwb : winsB x.wins.length x.wins = true) (ha : a < x.wins.length) (hb : b ≤ 7) :
    Calls Tryd.prog 31 #[v, .int .i64 a, .int .i64 b] w fun e w' => e = .returned (.bool (bt x.wins a b)) ∧ Below w.heap.size w w' := by
  obtain ⟨u, rfl, A, c, rfl, hc, hm, hsl⟩ := hs
  obtain ⟨bk, off, y, rfl, hy, c1, hlt⟩ := hsl.at_ ha
  obtain ⟨h1, h2⟩ := winsB_at hn hwb hy
  have e1 := bit_at h1 h2 hb
  have HB : Hid (bt x.wins a b = y.toNat.testBit b) := by show _ = _; rw [bt, List.getD_eq_getElem?_getD, hy]; rfl
  have hne : ¬ bk = w.heap.size := by omega
  clear hsl hy
  cases ht : y.toNat.testBit b
  all_goals
    have HT := Lib.hid ht
    rw [ht] at e1
    simp only [Bool.false_eq_true, if_true, if_false] at e1
    clear ht
    go_enter Tryd.func31, Tryd.ntmps31
    go_wp2
    go_ret
    exact ⟨ret_bool (by rw [HB.out, HT.out]), (Below.refl _ w).alloc (Nat.le_refl _) _⟩
end Go.Proofs.YtklhplifceedeaaDoor
