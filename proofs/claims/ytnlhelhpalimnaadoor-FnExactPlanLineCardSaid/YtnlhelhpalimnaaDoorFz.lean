/- Texts of integers, joined: words, rows of strings, the reference's contracts. -/
import Derived.Test.YtnlhelhpalimnaaDoorFi
import Derived.Test.YtnlhelhpalimnaaDoorStd
import Derived.Test.YtnlhelhpalimnaaDoorShelf
import Derived.Lib.Join
import Derived.Lib.SmallJoins
import Derived.Lib.LaidTab
namespace Go.Proofs.YtnlhelhpalimnaaDoor
open Go.ChangeShapes Go.WideShapes Go.ChangeAt Go.RowKit

def strs (ls : List (List UInt8)) : List Value := ls.map fun l => .string ⟨l.toArray⟩
theorem strs_snoc (ls : List (List UInt8)) (l : List UInt8) : strs (ls ++ [l]) = strs ls ++ [.string ⟨l.toArray⟩] := by simp [strs]
theorem strs_length (ls : List (List UInt8)) : (strs ls).length = ls.length := by simp [strs]
theorem strs_get {ls : List (List UInt8)} {k : Nat} {v : Value} (h : (strs ls)[k]? = some v) : ∃ l, ls[k]? = some l ∧ v = .string ⟨l.toArray⟩ := by
  simp only [strs, List.getElem?_map, Option.map_eq_some_iff] at h
  obtain ⟨l, h1, h2⟩ := h
  exact ⟨l, h1, h2.symm⟩
theorem join_snoc {ls : List (List UInt8)} (l sep : List UInt8) (h : ls ≠ []) : Lib.join (ls ++ [l]) sep = Lib.join ls sep ++ sep ++ l := by
  cases ls with
  | nil => exact absurd rfl h
  | cons x r =>
    rw [List.cons_append, Lib.join_cons, Lib.join_cons]
    simp [Lib.joinTail]
theorem join_take_le (ls : List (List UInt8)) (sep : List UInt8) : ∀ j d, (Lib.join (ls.take j) sep).length ≤ (Lib.join (ls.take (j + d)) sep).length := by
  intro j d
  induction d with
  | zero => exact Nat.le_refl _
  | succ d ih =>
    refine Nat.le_trans ih ?_
    rw [← Nat.add_assoc]
    by_cases h : j + d < ls.length
    · have e : ls[j + d]? = some ls[j + d] := List.getElem?_eq_getElem h
      rw [take_snoc e]
      by_cases h0 : ls.take (j + d) = []
      · rw [h0]; simp [Lib.join_nil]
      · rw [join_snoc _ _ h0]; simp only [List.length_append]; omega
    · rw [List.take_of_length_le (by omega), List.take_of_length_le (by omega)]; exact Nat.le_refl _
theorem join_bound {ls : List (List UInt8)} {b : Nat} (c : UInt8) (h : ∀ l ∈ ls, l.length ≤ b) : (Lib.join ls [c]).length ≤ (b + 1) * ls.length := by
  have key : ∀ j, j ≤ ls.length → (Lib.join (ls.take j) [c]).length ≤ (b + 1) * j := by
    intro j
    induction j with
    | zero => intro _; simp [Lib.join_nil]
    | succ j ih =>
      intro hj
      have e : ls[j]? = some ls[j] := List.getElem?_eq_getElem (by omega)
      have h1 := h ls[j] (List.getElem_mem (by omega))
      have h2 := ih (by omega)
      rw [take_snoc e]
      have h3 : (b + 1) * (j + 1) = (b + 1) * j + (b + 1) := by rw [Nat.mul_add, Nat.mul_one]
      by_cases h0 : ls.take j = []
      · rw [h0, List.nil_append, Lib.join_one]; omega
      · rw [join_snoc _ _ h0]; simp only [List.length_append, List.length_singleton]; omega
  have h1 := key ls.length (Nat.le_refl _)
  rwa [List.take_length] at h1
def fmtF (xs : List Int) : List UInt8 := if xs = [] then [45] else Lib.join (xs.map Lib.itoa) [44]
def wfI (xs : List Int) : Prop := ∀ x ∈ xs, -9223372036854775808 ≤ x ∧ x ≤ 9223372036854775807
theorem wfI_at {xs : List Int} (h : wfI xs) {k : Nat} {x : Int} (hx : xs[k]? = some x) : -9223372036854775808 ≤ x ∧ x ≤ 9223372036854775807 := h x (List.mem_of_getElem? hx)
theorem fmt_bound {xs : List Int} (h : wfI xs) : (Lib.join (xs.map Lib.itoa) [44]).length ≤ 22 * xs.length := by
  have := join_bound (ls := xs.map Lib.itoa) (b := 21) 44 (fun l hl => by
    obtain ⟨x, hx, rfl⟩ := List.mem_map.1 hl
    exact Lib.itoa_length_le _ (h x hx).1 (h x hx).2)
  rwa [List.length_map] at this

def tabP (w : World) : Prop := Lib.TabIs Tryd.prog w "internal/strconv.uint64pow10" .u64 Lib.pow10Tab
theorem tabP_isSome : (Tryd.prog.globalNamed "internal/strconv.uint64pow10").isSome = true := by kernel_rfl
theorem tabP.below {B : Nat} {w w' : World} (h : tabP w) (hb : Below B w w') (hB : w.heap.size ≤ B) : tabP w' :=
  Joins.tab_stays (Option.some_get tabP_isSome).symm h hb hB
theorem tabP.drewN {w : World} (h : tabP w) (q : Nat) : tabP (w.drewN q) := h.below (below_of_drewN w.heap.size w q) (Nat.le_refl _)
theorem below_grow (w : World) (k : Nat) (os : Array Obj) : Below w.heap.size w (Sort.grow (w.drewN k) os) :=
  ⟨rfl, rfl, rfl, by show _ ≤ (w.heap ++ os).size; simp, fun i hi => by show (w.heap ++ os)[i]? = _; exact Array.getElem?_append_left hi⟩

theorem implFormatInt_any (n : Int) (w : World) (h0 : -9223372036854775808 ≤ n) (h1 : n ≤ 9223372036854775807) (ht : tabP w) :
    Calls Tryd.prog 16 #[.int .i64 n] w fun e w' => e = .returned (.string ⟨(Lib.itoa n).toArray⟩) ∧ Below w.heap.size w w' := by
  go_enter Tryd.func16, Tryd.ntmps16
  go_wp2_with fail
  refine (Tryd.strconv_Itoa n h0 h1 _ ht).mono ?_
  rintro e w2 ⟨rfl, k, os, rfl⟩
  go_wp2
  go_ret
  exact ⟨rfl, below_grow _ _ _⟩
end Go.Proofs.YtnlhelhpalimnaaDoor
