/- The fewest challenges: the search in its smallest steps; the start (plain). -/
import Derived.Test.YtbipjmaeclgldaaDoorFws
namespace Go.Proofs.YtbipjmaeclgldaaDoor
open Go.ChangeShapes Go.WideShapes Go.ChangeAt Go.RowKit

def accU (d r : Nat) (now : List Int) (lo up : Nat) (L : BfsL) : BfsL := ((List.range up).filterMap fun u => if lo - r ≤ u then some (riseL now lo u) else none).foldl (addB d) L
def accR (d r : Nat) (now : List Int) (lo : Nat) (L : BfsL) : BfsL := ((List.range lo).flatMap (nbRow r now)).foldl (addB d) L
theorem accR_succ (d r : Nat) (now : List Int) (lo : Nat) (L : BfsL) : accR d r now (lo + 1) L = accU d r now lo lo (accR d r now lo L) := by
  unfold accR accU
  rw [List.range_succ, List.flatMap_append, List.foldl_append]
  simp [nbRow]
theorem accU_zero {d r lo : Nat} {now : List Int} {L : BfsL} : ∀ {up : Nat}, up ≤ lo - r → accU d r now lo up L = L
  | 0, _ => rfl
  | up + 1, h => by
    have ih := accU_zero (d := d) (r := r) (lo := lo) (now := now) (L := L) (up := up) (by omega)
    unfold accU at ih ⊢
    rw [List.range_succ, List.filterMap_append, List.foldl_append, ih]
    simp only [List.filterMap_cons, List.filterMap_nil]
    rw [if_neg (by omega)]; rfl
theorem accU_succ {d r lo up : Nat} {now : List Int} {L : BfsL} (h : lo - r ≤ up) : accU d r now lo (up + 1) L = addB d (accU d r now lo up L) (riseL now lo up) := by
  unfold accU
  rw [List.range_succ, List.filterMap_append, List.foldl_append]
  simp only [List.filterMap_cons, List.filterMap_nil]
  rw [if_pos h]; rfl
theorem step_accR {r i d : Nat} {L : BfsL} {now : List Int} (h : L[i]? = some (now, d)) : stepB r L i = accR d r now now.length L := by
  unfold stepB; rw [h]; rfl
theorem accU_good {n d r lo : Nat} {now : List Int} {L : BfsL} (hg : GoodB n L) (hl : ladB now = true) (hn : now.length = n) (h : lo < n) : ∀ {up : Nat}, up ≤ lo → GoodB n (accU d r now lo up L)
  | 0, _ => hg
  | up + 1, hu => by
    have ih := accU_good (d := d) (r := r) hg hl hn h (up := up) (by omega)
    by_cases hr : lo - r ≤ up
    · rw [accU_succ hr]
      have := rise_lad hl (lo := lo) (up := up) (by omega) (by omega)
      exact addB_good ih ⟨this.1, this.2.trans hn⟩
    · rw [accU_zero (by omega)]; exact hg
theorem accR_good {n d r : Nat} {now : List Int} {L : BfsL} (hg : GoodB n L) (hl : ladB now = true) (hn : now.length = n) : ∀ {lo : Nat}, lo ≤ n → GoodB n (accR d r now lo L)
  | 0, _ => hg
  | lo + 1, h => by
    rw [accR_succ]
    exact accU_good (accR_good hg hl hn (lo := lo) (by omega)) hl hn (by omega) (Nat.le_refl _)
theorem accU_mem {d r lo up : Nat} {now : List Int} {L : BfsL} {p : List Int × Nat} (h : p ∈ L) : p ∈ accU d r now lo up L := by
  obtain ⟨E, e⟩ := foldB_pre d ((List.range up).filterMap fun u => if lo - r ≤ u then some (riseL now lo u) else none) L
  unfold accU; rw [e]; exact List.mem_append_left _ h
theorem accR_mem {d r lo : Nat} {now : List Int} {L : BfsL} {p : List Int × Nat} (h : p ∈ L) : p ∈ accR d r now lo L := by
  obtain ⟨E, e⟩ := foldB_pre d ((List.range lo).flatMap (nbRow r now)) L
  unfold accR; rw [e]; exact List.mem_append_left _ h
/-- No ladder is further off than the rounds that have been. -/
theorem addB_d {d k : Nat} {L : BfsL} {x : List Int} (h : ∀ p ∈ L, p.2 ≤ k) (hd : d + 1 ≤ k) : ∀ p ∈ addB d L x, p.2 ≤ k := fun p hp => by
  unfold addB at hp
  split at hp
  · exact h p hp
  · rcases List.mem_append.1 hp with hp | hp
    · exact h p hp
    · simp at hp; subst hp; exact hd
theorem foldB_d {d k : Nat} (hd : d + 1 ≤ k) : ∀ (xs : List (List Int)) (L : BfsL), (∀ p ∈ L, p.2 ≤ k) → ∀ p ∈ xs.foldl (addB d) L, p.2 ≤ k
  | [], L, h => h
  | x :: xs, L, h => foldB_d hd xs _ (addB_d h hd)
theorem runB_d (r : Nat) (a : List Int) : ∀ i, ∀ p ∈ runB r a i, p.2 ≤ i
  | 0 => fun p hp => by simp [runB] at hp; subst hp; exact Nat.le_refl _
  | i + 1 => by
    have ih := runB_d r a i
    rw [runB]
    unfold stepB
    split
    · exact fun p hp => by have := ih p hp; omega
    · rename_i now d hi
      have := ih _ (List.mem_of_getElem? hi)
      exact foldB_d (by simp only at this; omega) _ _ fun p hp => by have := ih p hp; omega
theorem hasK_of_mem {L : BfsL} {x : List Int} {d : Nat} (h : (x, d) ∈ L) : hasK L x = true := hasK_t.2 ⟨d, h⟩
theorem addB_t {d : Nat} {L : BfsL} {x : List Int} (h : hasK L x = true) : addB d L x = L := by unfold addB; rw [if_pos h]
theorem addB_f {d : Nat} {L : BfsL} {x : List Int} (h : hasK L x = false) : addB d L x = L ++ [(x, d + 1)] := by unfold addB; rw [if_neg (by simp [h])]
/-- The whole answer. -/
def fewOk (a b : List Int) (r : Int) : Bool := ladB a && (ladB b && (decide (a.length = b.length) && (decide (a.length ≤ 5) && inB r 1 7)))
noncomputable def fewF (a b : List Int) (r : Int) : Int := if fewOk a b r then fewB r.toNat a b else -1
theorem fewF_no {a b : List Int} {r : Int} (h : fewOk a b r = false) : fewF a b r = -1 := by unfold fewF; rw [if_neg (by simp [h])]
theorem fewOk_mk {a b : List Int} {r : Int} (h1 : ladB a = true) (h2 : ladB b = true) (h3 : a.length = b.length) (h4 : a.length ≤ 5) (h5 : inB r 1 7 = true) : fewOk a b r = true := by simp [fewOk, h1, h2, h3, h5]; omega

theorem RowIn.keepRow {w wr w2 : World} {gf : Nat} {v : Value} {x : List Int} (h : RowIn w wr gf v x) (hb : Below wr.heap.size wr w2) : RowIn w w2 gf v x := h.kept hb.size fun b h3 => hb.block b h3.1
theorem ownsRow_lo {w : World} {lo lo' n : Nat} {e : TypeId} {v : Value} {vs : List Value} (h1 : lo' ≤ lo) (h : w.ownsRow lo e 1 v n vs) : w.ownsRow lo' e 1 v n vs := by
  refine ⟨h.1, ?_⟩
  rcases h.2 with h | ⟨g, cap, cur, rfl, hb, r⟩
  · exact .inl h
  · exact .inr ⟨g, cap, cur, rfl, by omega, r⟩
theorem FwR.start {w w1 w2 : World} {a : List Int} {A : Option Addr} {c n : Nat} (ha : InI w (.slice A n c) a) (hn : a.length = n) (h0 : 0 < n) (h5 : n ≤ 5) (hl : ladB a = true) (hb1 : Below w.heap.size w w1)
    (hf : Fr w2 w1.heap.size w2.heap.size (.slice (some ⟨w1.heap.size, 0, none⟩) 32768 32768) (List.replicate 32768 0)) (hb : Below w1.heap.size w1 w2) (hsz : w2.heap.size = w1.heap.size + 1) :
    (∃ x, (w2.alloc (.cells #[.slice A n c] 22)).cell? ⟨w1.heap.size, (numL a).toNat, none⟩ = some x) ∧ (w2.alloc (.cells #[.slice A n c] 22)).frozen? ⟨w1.heap.size, (numL a).toNat, none⟩ = false ∧
    FwR w ((w2.alloc (.cells #[.slice A n c] 22)).setCell ⟨w1.heap.size, (numL a).toNat, none⟩ (.int .i64 1)) w1.heap.size (.slice (some ⟨w2.heap.size, 0, none⟩) 1 1) [(a, 0)] := by
  have hr := numL_range hl (by omega)
  have b3 : Below w2.heap.size w2 (w2.alloc (.cells #[.slice A n c] 22)) := (Below.refl _ w2).alloc (Nat.le_refl _) _
  have hown := (hf.below b3 (Nat.le_refl _)).own
  rw [List.length_replicate] at hown
  obtain ⟨u, h1, h2, h3, h4, h6⟩ := own_get hown (k := (numL a).toNat) (by omega) (.int .i64 1)
  rw [ints_set] at h4
  have hlit := World.ownsRow_lit (base := w2.heap.size) (e := 22) (size := 1) w2 #[.slice A n c] 1 (Nat.le_refl _) (by unfold maxLen; omega) rfl
  have hWW : Below w.heap.size w w2 := hb1.trans (hb.mono hb1.size)
  have hB3 : Below w.heap.size w (w2.alloc (.cells #[.slice A n c] 22)) := hWW.alloc hWW.size _
  have hle := hb1.size
  refine ⟨⟨u, h2⟩, h3, hB3.setCell (p := ⟨w1.heap.size, (numL a).toNat, none⟩) hle _, hle, by simp; omega, ⟨(List.replicate 32768 (0 : Int)).set (numL a).toNat 1, ?_, ?_⟩, [.slice A n c], ?_, ?_⟩
  · have hg0 : GoodB n [] := ⟨by simp, fun p hp => by cases hp⟩
    have := (FarL.nil rfl).add hg0 ⟨hl, hn⟩ h5 (x := a) (by rfl) 0
    exact this
  · exact ownsRow_lo hle h4
  · have hblk : ((w2.alloc (.cells #[.slice A n c] 22)).setCell ⟨w1.heap.size, (numL a).toNat, none⟩ (.int .i64 1)).heap.size = w2.heap.size + 1 := by simp
    have g1 : (w2.alloc (.cells #[.slice A n c] 22)).grownBy ((w2.alloc (.cells #[.slice A n c] 22)).setCell ⟨w1.heap.size, (numL a).toNat, none⟩ (.int .i64 1)) (some w1.heap.size) :=
      ⟨rfl, rfl, rfl, by rw [hblk]; simp, fun k _ hne2 => by
        show (((w2.alloc (.cells #[.slice A n c] 22)).heap.modify w1.heap.size _)[k]?) = _
        rw [Array.getElem?_modify, if_neg (fun e2 => hne2 (by rw [e2]))]⟩
    have h7 := hlit.kept g1 (.inr fun e2 => by
      first
        | (injection (show some w1.heap.size = some w2.heap.size from e2) with e3; omega)
        | (injection (show some w2.heap.size = some w1.heap.size from e2) with e3; omega))
    exact ownsRow_lo (by omega) h7
  · intro k v p h7 h8
    match k, h7, h8 with
    | 0, h7, h8 =>
      simp only [List.getElem?_cons_zero, Option.some.injEq] at h7 h8
      subst h7; subst h8
      exact RowIn.arg ha (show 0 < a.length by omega) (hB3.setCell (p := ⟨w1.heap.size, (numL a).toNat, none⟩) hle _)
    | k + 1, h7, h8 => simp at h7
theorem accR_le (d r : Nat) (now : List Int) (lo : Nat) (L : BfsL) : L.length ≤ (accR d r now lo L).length := by
  obtain ⟨E, e⟩ := foldB_pre d ((List.range lo).flatMap (nbRow r now)) L
  unfold accR; rw [e, List.length_append]; omega
theorem RowIn.cells {w wr : World} {gf b o n c : Nat} {x : List Int} (h : RowIn w wr gf (.slice (some ⟨b, o, none⟩) n c) x) : ∀ W, Below wr.heap.size wr W → ∀ k y, x[k]? = some y → W.cell? ⟨b, o + k, none⟩ = some (.int .i64 y) := by
  obtain ⟨b', o', c', e, h1, h2, h3, h4⟩ := h
  injection e with e1 e2 e3
  injection e1 with e1
  injection e1 with e4 e5
  subst e4; subst e5
  exact fun W hW k y hy => (hW.cell (p := ⟨b, o + k, none⟩) h3.1).trans (h4 k y hy)
end Go.Proofs.YtbipjmaeclgldaaDoor
