/- Texts of integers, joined: words, rows of strings, the reference's contracts. -/
import Derived.Test.YtbhinnkjadfgcaaDoorFi
import Derived.Test.YtbhinnkjadfgcaaDoorStd
import Derived.Test.YtbhinnkjadfgcaaDoorShelf
import Derived.Lib.ItoaNum
import Derived.Lib.ItoaLen
import Derived.Lib.ItoaMem
import Derived.Below
import Derived.Laws.IdiomStrings
import Derived.Laws.Concat
import Derived.Lib.Join
import Derived.Lib.SmallJoins
import Derived.Lib.LaidTab
namespace Go.Proofs.YtbhinnkjadfgcaaDoor
open Go.ChangeShapes Go.WideShapes Go.ChangeAt Go.RowKit

def strs (ls : List (List UInt8)) : List Value := ls.map fun l => .string ⟨l.toArray⟩
theorem strs_snoc (ls : List (List UInt8)) (l : List UInt8) : strs (ls ++ [l]) = strs ls ++ [.string ⟨l.toArray⟩] := by simp [strs]
theorem strs_length (ls : List (List UInt8)) : (strs ls).length = ls.length := by simp [strs]
theorem strs_get {ls : List (List UInt8)} {k : Nat} {v : Value} (h : (strs ls)[k]? = some v) : ∃ l, ls[k]? = some l ∧ v = .string ⟨l.toArray⟩ := by
  simp only [strs, List.getElem?_map, Option.map_eq_some_iff] at h
  obtain ⟨l, h1, h2⟩ := h
  exact ⟨l, h1, h2.symm⟩
theorem join_snoc {ls : List (List UInt8)} (l sep : List UInt8) (h : ls ≠ []) : Lib.join (ls ++ [l]) sep = Lib.join ls sep ++ sep ++ l := by
  cases ls with
  | nil => exact absurd rfl h
  | cons x r =>
    rw [List.cons_append, Lib.join_cons, Lib.join_cons]
    simp [Lib.joinTail]
theorem join_take_le (ls : List (List UInt8)) (sep : List UInt8) : ∀ j d, (Lib.join (ls.take j) sep).length ≤ (Lib.join (ls.take (j + d)) sep).length := by
  intro j d
  induction d with
  | zero => exact Nat.le_refl _
  | succ d ih =>
    refine Nat.le_trans ih ?_
    rw [← Nat.add_assoc]
    by_cases h : j + d < ls.length
    · have e : ls[j + d]? = some ls[j + d] := List.getElem?_eq_getElem h
      rw [take_snoc e]
      by_cases h0 : ls.take (j + d) = []
      · rw [h0]; simp [Lib.join_nil]
      · rw [join_snoc _ _ h0]; simp only [List.length_append]; omega
    · rw [List.take_of_length_le (by omega), List.take_of_length_le (by omega)]; exact Nat.le_refl _
theorem join_bound {ls : List (List UInt8)} {b : Nat} (c : UInt8) (h : ∀ l ∈ ls, l.length ≤ b) : (Lib.join ls [c]).length ≤ (b + 1) * ls.length := by
  have key : ∀ j, j ≤ ls.length → (Lib.join (ls.take j) [c]).length ≤ (b + 1) * j := by
    intro j
    induction j with
    | zero => intro _; simp [Lib.join_nil]
    | succ j ih =>
      intro hj
      have e : ls[j]? = some ls[j] := List.getElem?_eq_getElem (by omega)
      have h1 := h ls[j] (List.getElem_mem (by omega))
      have h2 := ih (by omega)
      rw [take_snoc e]
      have h3 : (b + 1) * (j + 1) = (b + 1) * j + (b + 1) := by rw [Nat.mul_add, Nat.mul_one]
      by_cases h0 : ls.take j = []
      · rw [h0, List.nil_append, Lib.join_one]; omega
      · rw [join_snoc _ _ h0]; simp only [List.length_append, List.length_singleton]; omega
  have h1 := key ls.length (Nat.le_refl _)
  rwa [List.take_length] at h1
def fmtF (xs : List Int) : List UInt8 := if xs = [] then [45] else Lib.join (xs.map Lib.itoa) [44]
def wfI (xs : List Int) : Prop := ∀ x ∈ xs, -9223372036854775808 ≤ x ∧ x ≤ 9223372036854775807
theorem wfI_at {xs : List Int} (h : wfI xs) {k : Nat} {x : Int} (hx : xs[k]? = some x) : -9223372036854775808 ≤ x ∧ x ≤ 9223372036854775807 := h x (List.mem_of_getElem? hx)
theorem fmt_bound {xs : List Int} (h : wfI xs) : (Lib.join (xs.map Lib.itoa) [44]).length ≤ 22 * xs.length := by
  have := join_bound (ls := xs.map Lib.itoa) (b := 21) 44 (fun l hl => by
    obtain ⟨x, hx, rfl⟩ := List.mem_map.1 hl
    exact Lib.itoa_length_le _ (h x hx).1 (h x hx).2)
  rwa [List.length_map] at this

theorem infoStr : (Tryd.prog.info? 9).map (fun i => (i.zero, i.size, i.bytes)) = some (some (.string ⟨#[]⟩), 1, 16) := by kernel_rfl
/-- 'out = append(out, s)' at a row of strings of the call's own. -/
theorem appZ {ops : Array Oper} {rest : List Oper} {o : Oper} {a : Act} {Q : Exit → Act → World → Prop} (hgd : o.guard = none) (s y : Operand)
    (ho : o.op = .call { callee := .builtin .append, args := #[s, y], argTypes := #[28, 28] })
    (w : World) (base : Nat) (v : Value) (n : Nat) (xs : List (List UInt8)) (hs : a.eval s = v) (hown : w.ownsRow base 9 1 v n (strs xs)) (x : List UInt8)
    (hx : a.eval y = .slice (some ⟨w.heap.size, 0, none⟩) 1 1) (hl : n ≤ 1048576) (hbase : base ≤ w.heap.size)
    (h : ∀ v' w', w'.ownsRow base 9 1 v' (n + 1) (strs (xs ++ [x])) → (∀ B, B ≤ base → B ≤ w.heap.size → Below B w w') → w.heap.size < w'.heap.size → w.grownBy w' v.ownBlock → wpList Tryd.prog ops Q rest (a.put o.dst v') w') :
    wpList Tryd.prog ops Q (o :: rest) a (w.alloc (.cells #[.string ⟨x.toArray⟩] 9)) := by
  obtain ⟨i0, hi, hz0, hz1, hz2⟩ := info_parts infoStr
  refine wpList_append_own _ hgd s y _ ho base 9 i0 (.string ⟨#[]⟩) 1 16 Tryd.underlying28 hi hz0 hz1 hz2 rfl (by decide) v n (strs xs) hs (hown.alloc _) ⟨w.heap.size, 0, none⟩ 1 1 [.string ⟨x.toArray⟩] hx rfl ?_ ?_ (by unfold maxLen; omega) (by omega) (by simp; omega) ?_
  · intro j u hj
    match j, hj with
    | 0, hj => simp at hj; subst hj; simp [Addr.add]
  · intro u hu; simp at hu; subst hu; rfl
  · intro v' w' h2 h3 _
    have hsz := h3.size
    simp only [World.size_alloc] at hsz
    refine h v' w' (by rw [strs_snoc]; exact h2) (fun B h4 h5 => ?_) (by omega) ?_
    · refine ((Below.refl B w).alloc h5 _).grown h3 (by simp; omega) (fun k hk => ?_)
      have := (hown.lt k hk).1; omega
    · exact ⟨h3.os, h3.tape, h3.output, by omega, fun k hk hne => by rw [h3.block k (by simp; omega) hne]; exact Below.heap_alloc _ _ _ hk⟩
theorem ownZ_below {w w' : World} {lo n : Nat} {e : TypeId} {v : Value} {vs : List Value} (h : w.ownsRow lo e 1 v n vs) (hb : Below w.heap.size w w') : w'.ownsRow lo e 1 v n vs :=
  ownsRow_keep (l2 := w.heap.size) (h2 := w.heap.size) h (fun g hg => (h.lt g hg).2) (Nat.le_refl _) (Keep.of_below hb (Nat.le_refl _)) (.inl (Nat.le_refl _))
theorem ownZ_form {w : World} {lo n : Nat} {e : TypeId} {v : Value} {vs : List Value} (h : w.ownsRow lo e 1 v n vs) : ∃ A c, v = .slice A n c ∧ n ≤ c := by
  rcases h.2 with ⟨rfl, hn⟩ | ⟨g, cap, cur, rfl, _, _, hc, hm, _⟩
  · exact ⟨none, 0, by rw [hn], by omega⟩
  · exact ⟨_, cap, rfl, hc⟩
theorem words_get {xs : List Int} {j : Nat} {x : Int} (h : xs[j]? = some x) : (xs.take (j + 1)).map Lib.itoa = (xs.take j).map Lib.itoa ++ [Lib.itoa x] := by
  rw [take_snoc h, List.map_append]; rfl

def tabP (w : World) : Prop := Lib.TabIs Tryd.prog w "internal/strconv.uint64pow10" .u64 Lib.pow10Tab
theorem tabP_isSome : (Tryd.prog.globalNamed "internal/strconv.uint64pow10").isSome = true := by kernel_rfl
theorem tabP.below {B : Nat} {w w' : World} (h : tabP w) (hb : Below B w w') (hB : w.heap.size ≤ B) : tabP w' :=
  Joins.tab_stays (Option.some_get tabP_isSome).symm h hb hB
theorem tabP.drewN {w : World} (h : tabP w) (q : Nat) : tabP (w.drewN q) := h.below (below_of_drewN w.heap.size w q) (Nat.le_refl _)
theorem below_grow (w : World) (k : Nat) (os : Array Obj) : Below w.heap.size w (Sort.grow (w.drewN k) os) :=
  ⟨rfl, rfl, rfl, by show _ ≤ (w.heap ++ os).size; simp, fun i hi => by show (w.heap ++ os)[i]? = _; exact Array.getElem?_append_left hi⟩

theorem implFormatInt_any (n : Int) (w : World) (h0 : -9223372036854775808 ≤ n) (h1 : n ≤ 9223372036854775807) (ht : tabP w) :
    Calls Tryd.prog 17 #[.int .i64 n] w fun e w' => e = .returned (.string ⟨(Lib.itoa n).toArray⟩) ∧ Below w.heap.size w w' := by
  go_enter Tryd.func17, Tryd.ntmps17
  go_wp2_with fail
  refine (Tryd.strconv_Itoa n h0 h1 _ ht).mono ?_
  rintro e w2 ⟨rfl, k, os, rfl⟩
  go_wp2
  go_ret
  exact ⟨rfl, below_grow _ _ _⟩
end Go.Proofs.YtbhinnkjadfgcaaDoor
