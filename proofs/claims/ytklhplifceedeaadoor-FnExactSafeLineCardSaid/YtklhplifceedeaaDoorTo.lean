/- The laws' helpers for tours. -/
import Derived.Test.YtklhplifceedeaaDoorTour
import Derived.Test.YtklhplifceedeaaDoorOpen
import Derived.Deep.RegionHeld3
import Derived.Lib.SmallJoins
namespace Go.Proofs.YtklhplifceedeaaDoor
open Go.ChangeShapes Go.WideShapes Go.ChangeAt Go.RowKit Go.Deep

set_option maxRecDepth 100000 in
theorem szTour_any (v : Value) (x : TourV) (left : Int) (w : World) (hs : InT w v x) (h0 : 0 ≤ left) (h1 : left ≤ 1048576) :
    Calls Tryd.prog 4 #[v, .int .i64 left] w fun e w' => e = .returned (.int .i64 (szR x.wins.length left)) ∧ Below w.heap.size w w' := by
  obtain ⟨u, rfl, hin⟩ := hs
  obtain ⟨A, c, rfl, hc, hm, hsl⟩ := id hin
  have HI := Lib.hid hin
  clear hin hsl
  by_cases hle : (x.wins.length : Int) ≤ left
  · go_enter Tryd.func4, Tryd.ntmps4
    go_wp2_with (go_at_call 9; refine (szIntS_any _ x.wins _ _ (HI.out.below ((Below.refl _ w).alloc (Nat.le_refl _) _)) h0 h1).mono ?_; rintro e w' ⟨rfl, rfl⟩; rw [szR_pos hle])
    go_ret
    exact ⟨by rw [szR_pos hle]; rfl, (Below.refl _ w).alloc (Nat.le_refl _) _⟩
  · go_enter Tryd.func4, Tryd.ntmps4
    go_wp2_with (go_at_call 9; refine (szIntS_any _ x.wins _ _ (HI.out.below ((Below.refl _ w).alloc (Nat.le_refl _) _)) h0 h1).mono ?_; rintro e w' ⟨rfl, rfl⟩; rw [szR_neg hle])
    go_ret
    exact ⟨by rw [szR_neg (by omega)]; rfl, (Below.refl _ w).alloc (Nat.le_refl _) _⟩

theorem pushT_1 (h : Array Obj) (a b c : Obj) : (((h.push a).push b).push c)[h.size + 1]? = some b := by
  simp only [Array.getElem?_push, Array.size_push]
  rw [if_neg (by omega)]; simp
theorem pushT_2 (h : Array Obj) (a b c : Obj) : (((h.push a).push b).push c)[h.size + 1 + 1]? = some c := by
  simp only [Array.getElem?_push, Array.size_push, if_true]
set_option maxRecDepth 100000 in
theorem toTour_std (v : Value) (x : TourV) (w : World) (hs : InT w v x) (hn : x.wins.length ≤ 1048576) :
    Calls Tryd.prog 6 #[v] w fun e w' => ∃ v', e = .returned v' ∧ OwT w' w.heap.size w'.heap.size v' x ∧ Below w.heap.size w w' := by
  obtain ⟨u, rfl, hin⟩ := hs
  obtain ⟨A, c, rfl, hc, hm, hs⟩ := id hin
  have HS := Lib.hid hin
  clear hs hin
  go_enter Tryd.func6, Tryd.ntmps6
  go_wp2_with (go_at_call 12; refine (toIntS_std _ x.wins _ (HS.out.below ((((Below.refl _ w).alloc (Nat.le_refl _) _).alloc (by simp) _).alloc (by simp; omega) _)) hn).mono ?_; rintro e w1 ⟨v1, rfl, hf, hb⟩; obtain ⟨A1, c1, rfl, hc1, hm1⟩ := hf.form; have b1 : w1.heap[w.heap.size + 1]? = some (.cells #[.int .i64 0, .slice none 0 0] 27 (0, 0)) := ((hb.block (w.heap.size + 1) (by simp)).trans (pushT_1 _ _ _ _)); have b2 : w1.heap[w.heap.size + 1 + 1]? = some (.cells #[.int .i64 x.size, .slice none 0 0] 27 (0, 0)) := ((hb.block (w.heap.size + 1 + 1) (by simp)).trans (pushT_2 _ _ _ _)); have q1 : w1.cell? ⟨w.heap.size + 1, 0, none⟩ = some (.int .i64 0) := (by simp [World.cell?, b1]); have q2 : w1.cell? ⟨w.heap.size + 1, 1, none⟩ = some (.slice none 0 0) := (by simp [World.cell?, b1]); have q3 : w1.cell? ⟨w.heap.size + 1 + 1, 0, none⟩ = some (.int .i64 x.size) := (by simp [World.cell?, b2]); have q4 : w1.cell? ⟨w.heap.size + 1 + 1, 1, none⟩ = some (.slice none 0 0) := (by simp [World.cell?, b2]); have f1 : w1.frozen? ⟨w.heap.size + 1, 0, none⟩ = false := (by simp [World.frozen?, b1]); have f2 : w1.frozen? ⟨w.heap.size + 1, 1, none⟩ = false := (by simp [World.frozen?, b1]); have f4 : w1.frozen? ⟨w.heap.size + 1 + 1, 1, none⟩ = false := (by simp [World.frozen?, b2]); have HF := Lib.hid (And.intro hf hb); clear hf hb b1 b2)
  have KP : Hid (Keep w.heap.size (w.heap.size + 3) w1 (((w1.setCell ⟨w.heap.size + 1 + 1, 1, none⟩ (.slice A1 x.wins.length c1)).setCell ⟨w.heap.size + 1, 0, none⟩ (.int .i64 x.size)).setCell ⟨w.heap.size + 1, 1, none⟩ (.slice A1 x.wins.length c1))) :=
    (((Keep.refl _ _ _).setCell (by show _ ≤ w.heap.size + 1 + 1; omega) (by show w.heap.size + 1 + 1 < _; omega) _).setCell (by show _ ≤ w.heap.size + 1; omega) (by show w.heap.size + 1 < _; omega) _).setCell (by show _ ≤ w.heap.size + 1; omega) (by show w.heap.size + 1 < _; omega) _
  have B1 : Below w.heap.size w w1 := ((((Below.refl _ w).alloc (Nat.le_refl _) _).alloc (by simp) _).alloc (by simp; omega) _).trans (HF.out.2.mono (by simp; omega))
  exact bodyPost_ret (v := .agg #[.int .i64 x.size, .slice A1 x.wins.length c1]) (by simp [results, Tryd.results6, go_sem, q1, q2]) rfl ⟨_, rfl, ⟨_, rfl, (HF.out.1.keep KP.out (.inr (by simp))).wide (by simp; omega) KP.out.size (Nat.le_refl _)⟩, B1.trans (KP.out.below (Nat.le_refl _) B1.size)⟩

theorem OwT.drew {w : World} {lo hi : Nat} {v : Value} {x : TourV} (h : OwT w lo hi v x) : OwT w.drew lo hi v x := h
theorem OwT.wide {w : World} {lo hi lo' hi' : Nat} {v : Value} {x : TourV} (h : OwT w lo hi v x) (h1 : lo' ≤ lo) (h2 : hi ≤ hi') (h3 : hi' ≤ w.heap.size) : OwT w lo' hi' v x := by
  obtain ⟨u, rfl, hf⟩ := h
  exact ⟨u, rfl, hf.wide h1 h2 h3⟩

set_option maxRecDepth 100000 in
theorem openT {H : Type} {enc : TypeId × Value → H} {W : World} {base : Nat} {v : Value} {d : DataW H} {p : List MemPlace}
    (hok : Value.okWide Tryd.prog W .any base 24 v) (h : DataW.Trod enc Tryd.prog W 0 (fun _ => true) true 24 v d p) : ∃ x : TourV, InT W v x := by
  obtain ⟨v0, v1, y0, y1, n, rfl, ok0, ok1, h0, h1⟩ := Go.Joins.open_agg2 Tryd.underlying24 (by kernel_rfl) (by kernel_rfl) hok h
  obtain ⟨a, he, -, hw⟩ := DataW.trod_int Tryd.underlying3 h0
  simp at he
  subst he
  rcases open_ints Tryd.underlying22 Tryd.underlying3 (by kernel_rfl) h1 with ⟨hcs, _⟩ | ⟨ad, len, cap, zs, hcs, _, hl, hm, hz, _, hcell, hwz⟩
  · simp at hcs
    subst hcs
    obtain ⟨xs, hx⟩ := inI_of_row (w := W) (.inl ⟨rfl, rfl, rfl, rfl⟩)
    exact ⟨⟨a, xs⟩, _, rfl, hx⟩
  · simp at hcs
    subst hcs
    obtain ⟨xs, hx⟩ := inI_of_row (w := W) (.inr ⟨_, rfl, hl, hm, by simpa using hz, hcell, hwz⟩)
    exact ⟨⟨a, xs⟩, _, rfl, hx⟩
end Go.Proofs.YtklhplifceedeaaDoor
