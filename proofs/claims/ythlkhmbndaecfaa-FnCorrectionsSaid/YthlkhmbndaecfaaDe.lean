/- slices.Delete of one result out of a row of the call's own. -/
import Derived.Test.YthlkhmbndaecfaaRm
import Derived.Lib.SliceRun
namespace Go.Proofs.Ythlkhmbndaecfaa
open Go.ChangeShapes Go.WideShapes Go.ChangeAt Go.RowKit

/-- A list in which places from o on are written anew. -/
def layC : List Value → Nat → List Value → List Value
  | xs, _, [] => xs
  | xs, o, v :: r => layC (xs.set o v) (o + 1) r
theorem layC_eq : ∀ (vs xs : List Value) (o : Nat), o + vs.length ≤ xs.length → layC xs o vs = xs.take o ++ vs ++ xs.drop (o + vs.length)
  | [], xs, o, _ => by simp [layC]
  | v :: r, xs, o, h => by
    simp only [List.length_cons] at h
    rw [layC, layC_eq r (xs.set o v) (o + 1) (by rw [List.length_set]; omega)]
    have h1 : (xs.set o v).take (o + 1) = xs.take o ++ [v] := by
      rw [take_snoc (x := v) (by rw [List.getElem?_set]; simp; omega), List.take_set_of_le (Nat.le_refl _)]
    have h2 : (xs.set o v).drop (o + 1 + r.length) = xs.drop (o + (v :: r).length) := by
      rw [List.drop_set_of_lt (by omega)]; congr 1; simp only [List.length_cons]; omega
    rw [h1, h2]; simp
theorem owns_cells {base e size g n cap : Nat} : ∀ (vs : List Value) (o : Nat) {w : World} {xs : List Value}, w.ownsRow base e size (.slice (some ⟨g, 0, none⟩) n cap) n xs → (w.setCells g o vs).ownsRow base e size (.slice (some ⟨g, 0, none⟩) n cap) n (layC xs o vs)
  | [], _, _, _, h => h
  | v :: r, o, _, _, h => owns_cells r (o + 1) (h.stored o v).1
theorem Keep.setCells {lo hi g : Nat} {w0 : World} (h1 : lo ≤ g) (h2 : g < hi) : ∀ (vs : List Value) (o : Nat) {w : World}, Keep lo hi w0 w → Keep lo hi w0 (w.setCells g o vs)
  | [], _, _, h => h
  | v :: r, o, _, h => Keep.setCells h1 h2 r (o + 1) (h.setCell (p := ⟨g, o, none⟩) h1 h2 v)
theorem owns_cut {base e size g n n' cap : Nat} {w : World} {xs : List Value} (h : w.ownsRow base e size (.slice (some ⟨g, 0, none⟩) n cap) n xs) (hn : n' ≤ n) (hx : xs.length = n * size) :
    w.ownsRow base e size (.slice (some ⟨g, 0, none⟩) n' cap) n' (xs.take (n' * size)) := by
  have hm : n' * size ≤ n * size := Nat.mul_le_mul_right _ hn
  refine ⟨by rw [List.length_take, hx]; omega, ?_⟩
  rcases h.2 with ⟨h', _⟩ | ⟨g', cap', cur, h', hb, hg, hnc, hcm, hcs, htake⟩
  · cases h'
  · injection h' with e1 e2 e3
    subst e3
    refine .inr ⟨g', cap, cur, by rw [e1], hb, hg, by omega, hcm, hcs, ?_⟩
    rw [← htake, List.take_take, Nat.min_eq_left hm]

theorem zeroR (w : World) : (zeroValue 39).run Try.prog w = .ok (.agg #[.int .i64 0, .int .i64 0, .int .i64 0, .int .i64 0]) w := by kernel_rfl
set_option maxRecDepth 100000 in
theorem clear4 (w : World) (ty : TypeId) (b o c : Nat) (hc : ∀ j, j < 4 → (w.cell? ⟨b, o + j, none⟩).isSome = true) (hf : ∀ j, j < 4 → w.frozen? ⟨b, o + j, none⟩ = false) :
    (Builtin.clear_ #[23] ty #[.slice (some ⟨b, o, none⟩) 1 c]).run Try.prog w = .ok (.tuple #[]) (w.setCells b o [.int .i64 0, .int .i64 0, .int .i64 0, .int .i64 0]) := by
  have hzc : (Builtin.zeroCells (Value.agg #[.int .i64 0, .int .i64 0, .int .i64 0, .int .i64 0]).cells 1).toList = [Value.int .i64 0, .int .i64 0, .int .i64 0, .int .i64 0] := by kernel_rfl
  have hst := run_storeCells_cells (P := Try.prog) b o [Value.int .i64 0, .int .i64 0, .int .i64 0, .int .i64 0] 0 w (by simpa using hc) (by simpa using hf) (by intro v hv; simp at hv; rw [hv]; rfl)
  simp only [Nat.add_zero] at hst
  simp [Builtin.clear_, run_underlying Try.underlying23, hzc, hst]

theorem flatN {rs : List Res} {k n : Nat} (hl : rs.length = n) : (ints (flat (rs.drop (k + 1)))).length = (n - (k + 1)) * 4 := by
  rw [ints_length, flat_length, List.length_drop, hl]
theorem delRow {rs : List Res} {k n : Nat} (hl : rs.length = n) (hk : k < n) :
    (layC (layC (ints (flat rs)) (k * 4) (ints (flat (rs.drop (k + 1))))) ((k + (n - (k + 1))) * 4) [.int .i64 0, .int .i64 0, .int .i64 0, .int .i64 0]).take ((k + (n - (k + 1))) * 4) = ints (flat (rs.take k ++ rs.drop (k + 1))) := by
  have h1 := flatN (k := k) hl
  have h0 : (ints (flat rs)).length = n * 4 := by rw [ints_length, flat_length, hl]
  have e1 : layC (ints (flat rs)) (k * 4) (ints (flat (rs.drop (k + 1)))) = (ints (flat rs)).take (k * 4) ++ ints (flat (rs.drop (k + 1))) ++ (ints (flat rs)).drop (k * 4 + (ints (flat (rs.drop (k + 1)))).length) := layC_eq _ _ _ (by omega)
  have l1 : (layC (ints (flat rs)) (k * 4) (ints (flat (rs.drop (k + 1))))).length = n * 4 := by
    rw [e1, List.length_append, List.length_append, List.length_take, List.length_drop, h0, h1]; omega
  rw [layC_eq _ _ _ (by rw [l1]; simp only [List.length_cons, List.length_nil]; omega), List.append_assoc, List.take_append_of_le_length (by rw [List.length_take, l1]; omega), List.take_take, Nat.min_self, e1, flat_append, ints_append, flat_takeR]
  rw [List.take_append_of_le_length (by rw [List.length_append, List.length_take, h0, h1]; omega), List.take_of_length_le (by rw [List.length_append, List.length_take, h0, h1]; omega)]
  simp [ints, List.map_take]
set_option maxHeartbeats 4000000 in
set_option maxRecDepth 1000000 in
theorem deleteR_any (g lo hi n c k : Nat) (rs : List Res) (w : World) (hs : FrR w lo hi (.slice (some ⟨g, 0, none⟩) n c) rs) (hk : k < n) (hn : n ≤ 1048576) :
    Calls Try.prog 36 #[.slice (some ⟨g, 0, none⟩) n c, .int .i64 k, .int .i64 ((k : Int) + 1)] w fun e w' => e = .returned (.slice (some ⟨g, 0, none⟩) (k + (n - (k + 1))) c) ∧ FrR w' lo hi (.slice (some ⟨g, 0, none⟩) (k + (n - (k + 1))) c) (rs.take k ++ rs.drop (k + 1)) ∧ Keep lo hi w w' := by
  obtain ⟨i0, hi0, hz0, hz1, hz2⟩ := info_parts infoR
  obtain ⟨A', c', he, hnc, hcm⟩ := hs.form
  injection he with e1 e2 e3
  subst e1; subst e2; subst e3
  obtain ⟨hown, hg, hsz⟩ := hs
  have hgh := hg g rfl
  have hlo : lo ≤ g := (hown.lt g rfl).1
  have HG := Lib.hid (And.intro hown (And.intro hgh (And.intro hlo (And.intro hsz hg))))
  generalize hl : rs.length = n at *
  have HL := Lib.hid hl
  have h0 : (ints (flat rs)).length = n * 4 := by rw [ints_length, flat_length, hl]
  have h1 := flatN (k := k) hl
  have hcell : ∀ j, j < n * 4 → ∃ u, w.cell? ⟨g, j, none⟩ = some u := fun j hj => ⟨_, (hown.cellAt j (by omega)).trans (List.getElem?_eq_getElem (by omega))⟩
  have hfz : ∀ j, w.frozen? ⟨g, j, none⟩ = false := fun j => hown.frozenAt j
  obtain ⟨A, hA, hsrc⟩ : ∃ A : Addr, (if c = k + 1 then some (⟨g, 0, none⟩ : Addr) else some ⟨g, (k + 1) * 4, none⟩) = some A ∧ Hid (∀ t u, (ints (flat (rs.drop (k + 1))))[t]? = some u → w.drew.cell? (A.add t) = some u) := by
    by_cases h : c = k + 1
    · refine ⟨⟨g, 0, none⟩, by simp [h], fun t u hu => ?_⟩
      have h0 : (ints (flat (rs.drop (k + 1)))).length = 0 := by rw [h1]; omega
      rw [List.length_eq_zero_iff.1 h0] at hu
      simp at hu
    · refine ⟨⟨g, (k + 1) * 4, none⟩, by simp [h], fun t u hu => ?_⟩
      have ht : t < (n - (k + 1)) * 4 := by
        have := (List.getElem?_eq_some_iff.1 hu).1
        rwa [h1] at this
      rw [Go.WideShapes.add_plain]
      show w.cell? _ = _
      rw [hown.cellAt _ (by omega), ← hu, flat_dropR]
      simp [ints, Nat.add_comm]
  have s1 := Lib.hid h1
  have s2 : Hid (∀ u ∈ ints (flat (rs.drop (k + 1))), u.oneCell' = true) := by
    intro u hu
    obtain ⟨x, _, rfl⟩ := List.mem_map.1 hu
    rfl
  have s3 : Hid (∀ t, t < (ints (flat (rs.drop (k + 1)))).length → (w.drew.cell? ⟨g, 0 + k * 4 + t, none⟩).isSome = true ∧ w.drew.frozen? ⟨g, 0 + k * 4 + t, none⟩ = false) := by
    intro t ht
    rw [h1] at ht
    obtain ⟨u, hu⟩ := hcell (0 + k * 4 + t) (by omega)
    exact ⟨by show (w.cell? _).isSome = true; rw [hu]; rfl, hfz _⟩
  obtain ⟨W1, hW1⟩ : ∃ W1, W1 = w.drew.setCells g (0 + k * 4) (ints (flat (rs.drop (k + 1)))) := ⟨_, rfl⟩
  have own1 : W1.ownsRow lo 39 4 (.slice (some ⟨g, 0, none⟩) n c) n (layC (ints (flat rs)) (k * 4) (ints (flat (rs.drop (k + 1))))) := by
    rw [hW1, Nat.zero_add]; exact owns_cells _ _ (World.ownsRow.drew hown)
  have K1 : Keep lo hi w W1 := by rw [hW1]; exact Keep.setCells hlo hgh _ _ (Keep.drewN (Keep.refl _ _ _) 1)
  have l1 : (layC (ints (flat rs)) (k * 4) (ints (flat (rs.drop (k + 1))))).length = n * 4 := own1.1
  have hcl : ∀ ty, (Builtin.clear_ #[23] ty #[.slice (some ⟨g, (k + (n - (k + 1))) * 4, none⟩) (n - (k + (n - (k + 1)))) (c - (k + (n - (k + 1))))]).run Try.prog W1 = .ok (.tuple #[]) (W1.setCells g ((k + (n - (k + 1))) * 4) [.int .i64 0, .int .i64 0, .int .i64 0, .int .i64 0]) := by
    intro ty
    have e : n - (k + (n - (k + 1))) = 1 := by omega
    rw [e]
    exact clear4 W1 ty g _ _ (fun j hj => by rw [own1.cellAt _ (by omega), List.getElem?_eq_getElem (by omega)]; rfl) (fun j _ => own1.frozenAt _)
  have own2 := owns_cells [.int .i64 0, .int .i64 0, .int .i64 0, .int .i64 0] ((k + (n - (k + 1))) * 4) own1
  have own3 := owns_cut (n' := k + (n - (k + 1))) own2 (by omega) own2.1
  rw [delRow hl hk] at own3
  have hlen : (rs.take k ++ rs.drop (k + 1)).length = k + (n - (k + 1)) := by rw [List.length_append, List.length_take, List.length_drop, hl]; omega
  have X : Hid (FrR (W1.setCells g ((k + (n - (k + 1))) * 4) [.int .i64 0, .int .i64 0, .int .i64 0, .int .i64 0]) lo hi (.slice (some ⟨g, 0, none⟩) (k + (n - (k + 1))) c) (rs.take k ++ rs.drop (k + 1)) ∧ Keep lo hi w (W1.setCells g ((k + (n - (k + 1))) * 4) [.int .i64 0, .int .i64 0, .int .i64 0, .int .i64 0])) := by
    have K2 := Keep.setCells hlo hgh [.int .i64 0, .int .i64 0, .int .i64 0, .int .i64 0] ((k + (n - (k + 1))) * 4) K1
    refine ⟨⟨by rw [hlen]; exact own3, fun g' hg' => ?_, Nat.le_trans hsz K2.size⟩, K2⟩
    have : g = g' := by simpa [Value.ownBlock] using hg'
    omega
  have hW : Hid (W1 = w.drew.setCells g (0 + k * 4) (ints (flat (rs.drop (k + 1))))) := hW1
  have hkc : k ≤ c := by omega
  have hkc1 : k + 1 ≤ c := by omega
  have hcm2 : c ≤ 9223372036854775807 := by unfold maxLen at hcm; omega
  have hne : ((k : Int) == (k : Int) + 1) = false := by simp; omega
  have hp0 : (0 : Int) ≤ (k : Int) + 1 := by omega
  have hp1 : (k : Int) + 1 ≤ (n : Int) := by omega
  have hp2 : ((k : Int) + 1).toNat = k + 1 := by omega
  have hp3 : ¬ c = k + (n - (k + 1)) := by omega
  clear hW1 hown hg HG hl h0 h1 hcell hfz own1 own2 own3 K1 l1 hlen hcm hsz hgh hlo
  go_enter Try.func36, Try.ntmps36
  go_wp2_with fail
  go_region_law (refine step_append_room rfl (.tmp 22) (.tmp 25) 23 rfl 39 i0 4 Try.underlying23 hi0 hz1 g 0 k c (by simp [Act.eval, Act.put]) A (n - (k + 1)) (c - (k + 1)) (ints (flat (rs.drop (k + 1)))) (by simp [Act.eval, Act.put]) s1.out hsrc.out s2.out (by omega) s3.out ?_; rw [← hW.out])
  go_wp2
  go_ret
  exact ⟨rfl, X.out⟩
end Go.Proofs.Ythlkhmbndaecfaa
