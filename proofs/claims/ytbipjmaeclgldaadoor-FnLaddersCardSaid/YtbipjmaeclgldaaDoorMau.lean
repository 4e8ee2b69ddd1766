/- Comparing orders: what the law FnComparisons asks. -/
import Derived.Test.YtbipjmaeclgldaaDoorMaq
import Derived.Test.YtbipjmaeclgldaaDoorMat
namespace Go.Proofs.YtbipjmaeclgldaaDoor
open Go.ChangeShapes Go.WideShapes Go.ChangeAt Go.RowKit

theorem visit_mem {n : Nat} : ∀ (t cur : List Int), (∀ x ∈ t, 0 ≤ x ∧ x < n) → t.Nodup → (∀ x ∈ t, x ∉ cur) → cur ++ t ∈ visit n t.length cur
  | [], cur, _, _, _ => by simp [visit]
  | x :: t, cur, h, hd, hc => by
    obtain ⟨hx, hd'⟩ := List.nodup_cons.1 hd
    rw [List.length_cons, visit, List.mem_flatMap]
    refine ⟨x, idxs_mem.2 (h x (List.mem_cons_self ..)), ?_⟩
    have hn : cur.contains x = false := by
      have := hc x (List.mem_cons_self ..)
      simpa using this
    rw [hn]
    have ih := visit_mem t (cur ++ [x]) (fun y hy => h y (List.mem_cons_of_mem _ hy)) hd' (fun y hy hm => by
      rcases List.mem_append.1 hm with hm | hm
      · exact hc y (List.mem_cons_of_mem _ hy) hm
      · have := List.mem_singleton.1 hm; subst this; exact hx hy)
    simpa using ih
theorem allO_mem {o : List Int} (h : ladB o = true) : o ∈ allO o.length := by
  obtain ⟨_, h1, h2⟩ := ladB_t h
  have := visit_mem (n := o.length) o [] h1 h2 (fun _ _ h => by simp at h)
  simpa [allO] using this
theorem lad_of_perm {l : List Int} {n : Nat} (h : l.Perm (upto n)) (h1 : 1 ≤ n) (h8 : n ≤ 8) : ladB l = true ∧ l.length = n := by
  have hl : l.length = n := by rw [h.length_eq, upto_length]
  exact ⟨ladB_mk (by omega) (by omega) (fun x hx => by have := mem_upto.1 (h.mem_iff.1 hx); omega) (h.nodup_iff.2 (upto_nodup n)), hl⟩
/-- A valid order of n numbers. -/
structure LadN (n : Nat) (a : List Int) : Prop where
  lad : ladB a = true
  len : a.length = n
theorem LadN.nd {n : Nat} {a : List Int} (h : LadN n a) : a.Nodup := (ladB_t h.lad).2.2
theorem LadN.perm {n : Nat} {a : List Int} (h : LadN n a) : a.Perm (upto n) := h.len ▸ ladB_perm h.lad
theorem LadN.perm2 {n : Nat} {a b : List Int} (h : LadN n a) (h2 : LadN n b) : a.Perm b := h.perm.trans h2.perm.symm
theorem LadN.bd {n : Nat} {a : List Int} (h : LadN n a) : 1 ≤ n ∧ n ≤ 8 := by have := (ladB_t h.lad).1; have := h.len; omega
theorem LadN.two {n : Nat} {a b : List Int} (h : LadN n a) (h2 : LadN n b) : twoB a b = true := twoB_mk h.lad h2.lad (h.len.trans h2.len.symm)
theorem ladN_of {n : Nat} {a : List Int} (h : a.Perm (upto n)) (h1 : 1 ≤ n) (h8 : n ≤ 8) : LadN n a := ⟨(lad_of_perm h h1 h8).1, (lad_of_perm h h1 h8).2⟩
theorem map_plc {n : Nat} {b : List Int} (hb : LadN n b) : b.map (plc b) = upto n := by
  apply List.ext_getElem?
  intro k
  by_cases hk : k < n
  · have hk' : k < b.length := by rw [hb.len]; exact hk
    rw [upto_get hk, List.getElem?_map, List.getElem?_eq_getElem hk']
    show some _ = _
    rw [plc_at hb.nd (List.getElem?_eq_getElem hk')]
  · rw [List.getElem?_eq_none (by rw [List.length_map, hb.len]; omega), List.getElem?_eq_none (by rw [upto_length]; omega)]
theorem LadN.q {n : Nat} {a b : List Int} (ha : LadN n a) (hb : LadN n b) : LadN n (qL a b) :=
  ladN_of (by rw [← map_plc hb]; exact (ha.perm2 hb).map _) ha.bd.1 ha.bd.2
theorem q_upto {n : Nat} {a b : List Int} (ha : LadN n a) (hb : LadN n b) : qL a b = upto n ↔ a = b := by
  constructor
  · intro h
    apply List.ext_getElem?
    intro k
    by_cases hk : k < n
    · have hk' : k < a.length := by rw [ha.len]; exact hk
      have hx := List.getElem?_eq_getElem hk'
      have h1 := congrArg (fun l : List Int => l[k]?) h
      simp only [qL, List.getElem?_map, hx, upto_get hk, Option.map_some] at h1
      injection h1 with h1
      have h2 := (plc_mem ((ha.perm2 hb).mem_iff.1 (List.getElem_mem hk'))).2.2
      rw [h1] at h2
      rw [hx, ← h2]; rfl
    · rw [List.getElem?_eq_none (by rw [ha.len]; omega), List.getElem?_eq_none (by rw [hb.len]; omega)]
  · rintro rfl; exact map_plc ha
theorem mem_of {n : Nat} {a b : List Int} (ha : LadN n a) (hb : LadN n b) : ∀ x ∈ a, x ∈ b := fun _ hx => (ha.perm2 hb).mem_iff.1 hx
theorem dist_q {n : Nat} {a b : List Int} (ha : LadN n a) (hb : LadN n b) : dist a b = dist (qL a b) (upto n) := dist_map hb.len (mem_of ha hb)
end Go.Proofs.YtbipjmaeclgldaaDoor
namespace Go.Proofs.YtbipjmaeclgldaaDoor
open Go.ChangeShapes Go.WideShapes Go.ChangeAt Go.RowKit

theorem ren_back {a : List Int} (ha : ladB a = true) {x : Int} (hx : x ∈ a) : renF a (plc a x) = x := by
  obtain ⟨h0, h1, h2⟩ := plc_mem hx
  obtain ⟨k, hk⟩ := Int.eq_ofNat_of_zero_le h0
  rw [hk] at h1 h2 ⊢
  rw [Int.toNat_natCast] at h2
  rw [renF_at (by omega)]
  have := List.getElem?_eq_getElem (show k < a.length by omega)
  rw [this] at h2
  exact Option.some.inj h2
theorem ren_of {a b : List Int} (ha : ladB a = true) (hb : ladB b = true) (hl : b.length = a.length) : (b.map (plc a)).map (renF a) = b ∧ ladB (b.map (plc a)) = true := by
  have hmem : ∀ x ∈ b, x ∈ a := fun x hx => by
    have h := (ladB_t hb).2.1 x hx
    obtain ⟨v, rfl⟩ := Int.eq_ofNat_of_zero_le h.1
    exact ladB_mem ha (by omega)
  have h1 : (b.map (plc a)).map (renF a) = b := by
    rw [List.map_map]
    conv => rhs; rw [← List.map_id b]
    exact List.map_congr_left fun x hx => ren_back ha (hmem x hx)
  have hlad := ladB_t hb
  refine ⟨h1, ladB_mk (by rw [List.length_map]; exact hlad.1.1) (by rw [List.length_map]; exact hlad.1.2) ?_ ?_⟩
  · intro y hy
    obtain ⟨x, hx, rfl⟩ := List.mem_map.1 hy
    obtain ⟨h0, h2, _⟩ := plc_mem (hmem x hx)
    rw [List.length_map]; omega
  · have hn : ((b.map (plc a)).map (renF a)).Nodup := by rw [h1]; exact hlad.2.2
    have : ∀ l : List Int, (l.map (renF a)).Nodup → l.Nodup := by
      intro l
      induction l with
      | nil => intro _; simp
      | cons x l ih =>
        intro h
        rw [List.map_cons, List.nodup_cons] at h
        rw [List.nodup_cons]
        exact ⟨fun hx => h.1 (List.mem_map.2 ⟨x, hx, rfl⟩), ih h.2⟩
    exact this _ hn
set_option maxRecDepth 1000000 in
theorem fewAll : ([1, 2, 3, 4, 5] : List Nat).all (fun n => (allO n).all (hasK (runB 1 (upto n) 120)) && (allO n).all (hasK (runB 4 (upto n) 120))) = true := by decide +kernel
/-- The answer between two orders: that of one order against the first one. -/
theorem few_any {r : Nat} (hr : r = 1 ∨ r = 4) {a b : List Int} (ha : ladB a = true) (hb : ladB b = true) (hl : b.length = a.length) (h5 : a.length ≤ 5) :
    ∃ d, (b.map (plc a), d) ∈ runB r (upto a.length) 120 ∧ fewB r a b = (d : Int) := by
  obtain ⟨h1, h2⟩ := ren_of ha hb hl
  have h0 := (ladB_t ha).1.1
  have hm := allO_mem h2
  rw [List.length_map, hl] at hm
  have hd := List.all_eq_true.1 fewAll a.length (by simp; omega)
  simp only [Bool.and_eq_true, List.all_eq_true] at hd
  have hk : hasK (runB r (upto a.length) 120) (b.map (plc a)) = true := by
    rcases hr with rfl | rfl
    · exact hd.1 _ hm
    · exact hd.2 _ hm
  obtain ⟨d, h3⟩ := hasK_t.1 hk
  have h4 := few_ren ha h3
  rw [h1] at h4
  exact ⟨d, h3, h4⟩
end Go.Proofs.YtbipjmaeclgldaaDoor
