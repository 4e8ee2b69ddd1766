/- The indices of a list: plain facts and the contract. -/
import Derived.Test.YthlkhmbndaecfaaStd
namespace Go.Proofs.Ythlkhmbndaecfaa
open Go.ChangeShapes Go.WideShapes Go.ChangeAt Go.RowKit

def idxs (n : Nat) : List Int := (List.range n).map (fun (i : Nat) => (i : Int))
theorem idxs_length (n : Nat) : (idxs n).length = n := by simp [idxs]
theorem idxs_get {n k : Nat} (h : k < n) : (idxs n)[k]? = some (k : Int) := by simp [idxs, h]
theorem idxs_mem {n : Nat} {x : Int} : x ∈ idxs n ↔ 0 ≤ x ∧ x < n := by
  simp only [idxs, List.mem_map, List.mem_range]
  constructor
  · rintro ⟨a, h, rfl⟩; omega
  · intro h; exact ⟨x.toNat, by omega, by omega⟩

theorem Fr.lift {w : World} {lo hi : Nat} {v : Value} {xs ys : List Int} (h : Fr w lo hi v xs) (e : xs = ys) : Fr w lo hi v ys := e ▸ h
theorem idx_start (n : Nat) : List.replicate n (0 : Int) = (idxs n).take 0 ++ List.replicate (n - 0) 0 := by simp
theorem idx_end (n : Nat) : (idxs n).take n ++ List.replicate (n - n) (0 : Int) = idxs n := by rw [Nat.sub_self, List.take_of_length_le (by rw [idxs_length]; omega)]; simp
theorem idx_set {n j : Nat} (h : j < n) : ((idxs n).take j ++ List.replicate (n - j) (0 : Int)).set j (j : Int) = (idxs n).take (j + 1) ++ List.replicate (n - (j + 1)) 0 := by
  rw [take_snoc (idxs_get h), List.set_append_right _ _ (by simp [idxs_length]; omega)]
  have : ((idxs n).take j).length = j := by simp [idxs_length]; omega
  rw [this, Nat.sub_self, show n - j = (n - (j + 1)) + 1 from by omega, List.replicate_succ]
  simp
theorem indices_any (n : Nat) (w : World) (hn : n ≤ 1048576) :
    Calls Try.prog 27 #[.int .i64 (n : Int)] w fun e w' => ∃ v', e = .returned v' ∧ Fr w' w.heap.size w'.heap.size v' (idxs n) ∧ Below w.heap.size w w' := by
  go_enter Try.func27, Try.ntmps27
  go_wp2_with (at_make; refine makeI rfl _ _ rfl w n rfl rfl (by omega) ?_; intro w1 hfr hb hsz)
  have HF := Lib.hid ((hfr.wide (Nat.le_refl _) (Nat.le_refl _) (Nat.le_refl _)).lift (idx_start n))
  have HB := Lib.hid (hb)
  clear hfr hb hsz
  go_loopw [9] (fun i wr => ∃ j : Nat, j ≤ n ∧ i = .int .i64 j ∧ Hid (Fr wr w.heap.size wr.heap.size (.slice (some ⟨w.heap.size, 0, none⟩) n n) ((idxs n).take j ++ List.replicate (n - j) 0) ∧ Below w.heap.size w wr)) (fun i _ => n - (intOf i).toNat)
  case atStart => exact ⟨0, Nat.zero_le _, rfl, HF.out, HB.out⟩
  case round =>
    obtain ⟨j, hj, rfl, HR⟩ := hrel
    clear HF HB
    by_cases hlt : j < n
    · obtain ⟨g, y, hg, h1, h2, h3, h4, h5, h6⟩ := HR.out.1.at_ (k := j) (by simp [idxs_length]; omega)
      obtain rfl : w.heap.size = g := by injection hg with hg; injection hg
      have HST := Lib.hid (h6 (j : Int))
      clear h6 h3 hg
      go_wp2
      go_roundw
      case rel =>
        exact ⟨j + 1, by omega, by go_num, ((HST.out.1.lift (idx_set hlt)).wide (Nat.le_refl _) HST.out.2.size (Nat.le_refl _)), HR.out.2.trans (HST.out.2.below (Nat.le_refl _) HR.out.2.size)⟩
      case measure => simp [intOf]; omega
    · obtain rfl : j = n := by omega
      go_wp2
      go_ret
      exact ⟨_, rfl, HR.out.1.lift (idx_end j), HR.out.2⟩
end Go.Proofs.Ythlkhmbndaecfaa
