/- Texts of integers, joined: words, rows of strings, the reference's contracts. -/
import Derived.Test.YtklhplifceedeaaDoorFi
import Derived.Test.YtklhplifceedeaaDoorStd
import Derived.Test.YtklhplifceedeaaDoorShelf
import Derived.Lib.ItoaNum
import Derived.Lib.ItoaLen
import Derived.Lib.ItoaMem
import Derived.Below
import Derived.Laws.IdiomStrings
import Derived.Laws.Concat
import Derived.Lib.Join
import Derived.Lib.SmallJoins
import Derived.Lib.LaidTab
namespace Go.Proofs.YtklhplifceedeaaDoor
open Go.ChangeShapes Go.WideShapes Go.ChangeAt Go.RowKit

def strs (ls : List (List UInt8)) : List Value := ls.map fun l => .string ⟨l.toArray⟩
theorem strs_snoc (ls : List (List UInt8)) (l : List UInt8) : strs (ls ++ [l]) = strs ls ++ [.string ⟨l.toArray⟩] := by simp [strs]
theorem strs_length (ls : List (List UInt8)) : (strs ls).length = ls.length := by simp [strs]
theorem strs_get {ls : List (List UInt8)} {k : Nat} {v : Value} (h : (strs ls)[k]? = some v) : ∃ l, ls[k]? = some l ∧ v = .string ⟨l.toArray⟩ := by
  simp only [strs, List.getElem?_map, Option.map_eq_some_iff] at h
  obtain ⟨l, h1, h2⟩ := h
  exact ⟨l, h1, h2.symm⟩
theorem join_snoc {ls : List (List UInt8)} (l sep : List UInt8) (h : ls ≠ []) : Lib.join (ls ++ [l]) sep = Lib.join ls sep ++ sep ++ l := by
  cases ls with
  | nil => exact absurd rfl h
  | cons x r =>
    rw [List.cons_append, Lib.join_cons, Lib.join_cons]
    simp [Lib.joinTail]
theorem join_take_le (ls : List (List UInt8)) (sep : List UInt8) : ∀ j d, (Lib.join (ls.take j) sep).length ≤ (Lib.join (ls.take (j + d)) sep).length := by
  intro j d
  induction d with
  | zero => exact Nat.le_refl _
  | succ d ih =>
    refine Nat.le_trans ih ?_
    rw [← Nat.add_assoc]
    by_cases h : j + d < ls.length
    · have e : ls[j + d]? = some ls[j + d] := List.getElem?_eq_getElem h
      rw [take_snoc e]
      by_cases h0 : ls.take (j + d) = []
      · rw [h0]; simp [Lib.join_nil]
      · rw [join_snoc _ _ h0]; simp only [List.length_append]; omega
    · rw [List.take_of_length_le (by omega), List.take_of_length_le (by omega)]; exact Nat.le_refl _
theorem join_bound {ls : List (List UInt8)} {b : Nat} (c : UInt8) (h : ∀ l ∈ ls, l.length ≤ b) : (Lib.join ls [c]).length ≤ (b + 1) * ls.length := by
  have key : ∀ j, j ≤ ls.length → (Lib.join (ls.take j) [c]).length ≤ (b + 1) * j := by
    intro j
    induction j with
    | zero => intro _; simp [Lib.join_nil]
    | succ j ih =>
      intro hj
      have e : ls[j]? = some ls[j] := List.getElem?_eq_getElem (by omega)
      have h1 := h ls[j] (List.getElem_mem (by omega))
      have h2 := ih (by omega)
      rw [take_snoc e]
      have h3 : (b + 1) * (j + 1) = (b + 1) * j + (b + 1) := by rw [Nat.mul_add, Nat.mul_one]
      by_cases h0 : ls.take j = []
      · rw [h0, List.nil_append, Lib.join_one]; omega
      · rw [join_snoc _ _ h0]; simp only [List.length_append, List.length_singleton]; omega
  have h1 := key ls.length (Nat.le_refl _)
  rwa [List.take_length] at h1
def fmtF (xs : List Int) : List UInt8 := if xs = [] then [45] else Lib.join (xs.map Lib.itoa) [44]
def wfI (xs : List Int) : Prop := ∀ x ∈ xs, -9223372036854775808 ≤ x ∧ x ≤ 9223372036854775807
theorem wfI_at {xs : List Int} (h : wfI xs) {k : Nat} {x : Int} (hx : xs[k]? = some x) : -9223372036854775808 ≤ x ∧ x ≤ 9223372036854775807 := h x (List.mem_of_getElem? hx)
theorem fmt_bound {xs : List Int} (h : wfI xs) : (Lib.join (xs.map Lib.itoa) [44]).length ≤ 22 * xs.length := by
  have := join_bound (ls := xs.map Lib.itoa) (b := 21) 44 (fun l hl => by
    obtain ⟨x, hx, rfl⟩ := List.mem_map.1 hl
    exact Lib.itoa_length_le _ (h x hx).1 (h x hx).2)
  rwa [List.length_map] at this

set_option maxHeartbeats 1000000 in
theorem specJoin_any (A : Option Addr) (c : Nat) (ls : List (List UInt8)) (sep : List UInt8) (w : World) (hs : SlV w A (strs ls)) (hn : ls.length ≤ 1048576) (_hsep : sep.length ≤ 1048576) (hlen : (Lib.join ls sep).length ≤ 1099511627776) :
    Calls Tryd.prog 23 #[.slice A ls.length c, .string ⟨sep.toArray⟩] w fun e w' => e = .returned (.string ⟨(Lib.join ls sep).toArray⟩) ∧ w = w' := by
  have HS := Lib.hid (And.intro hs hlen)
  clear hs hlen
  generalize hl : ls.length = n at *
  have HL := Lib.hid hl
  clear hl
  go_enter Tryd.func23, Tryd.ntmps23
  go_wp2
  go_loop [5, 10] (fun s i => ∃ j : Nat, j ≤ n ∧ i = .int .i64 j ∧ s = .string ⟨(Lib.join (ls.take j) sep).toArray⟩) (fun _ i => n - (intOf i).toNat)
  case atStart => exact ⟨0, Nat.zero_le _, rfl, rfl⟩
  case round =>
    obtain ⟨j, hj, rfl, rfl⟩ := hrel
    by_cases hlt : j < n
    · obtain ⟨b, off, v, rfl, hv, hc, -⟩ := HS.out.1.at_ (k := j) (by rw [strs_length, HL.out]; exact hlt)
      obtain ⟨l, hl, rfl⟩ := strs_get hv
      have HX := Lib.hid hl
      have hj1 := join_take_le ls sep (j + 1) (n - (j + 1))
      rw [show j + 1 + (n - (j + 1)) = n from by omega, show ls.take n = ls from by rw [← HL.out, List.take_length]] at hj1
      have hb := HS.out.2
      have hw : (Lib.join (ls.take (j + 1)) sep).length ≤ 1099511627776 := Nat.le_trans hj1 hb
      rw [take_snoc hl] at hw
      clear hj1 hb hv
      by_cases h0 : j = 0
      · subst h0
        rw [Nat.add_zero] at hc
        have e0 : ls.take 0 = [] := rfl
        rw [e0, List.nil_append, Lib.join_one] at hw
        have HN : Hid (Lib.join (ls.take (0 + 1)) sep = l) := by show _ = _; rw [take_snoc HX.out, e0, List.nil_append, Lib.join_one]
        have ej : Lib.join [] sep = [] := rfl
        clear hl e0
        go_wp2
        refine ⟨⟨1, by omega, by go_num, ?_⟩, by simp [intOf]; omega⟩
        rw [show ls.take 1 = ls.take (0 + 1) from rfl, HN.out]
        exact congrArg Value.string (bcat [] l)
      · have hne : ls.take j ≠ [] := by
          intro h
          have := congrArg List.length h
          rw [List.length_take, List.length_nil, HL.out] at this
          omega
        rw [join_snoc _ _ hne] at hw
        simp only [List.length_append] at hw
        have HN : Hid (Lib.join (ls.take (j + 1)) sep = Lib.join (ls.take j) sep ++ sep ++ l) := by show _ = _; rw [take_snoc HX.out, join_snoc _ _ hne]
        clear hl hne
        go_wp2
        refine ⟨⟨j + 1, by omega, by go_num, ?_⟩, by simp [intOf]; omega⟩
        rw [HN.out, bcat, bcat]
    · obtain rfl : j = n := by omega
      have HN : Hid (ls.take j = ls) := by show _ = _; rw [← HL.out, List.take_length]
      rw [HN.out]
      go_wp2
      go_ret
      exact ⟨rfl, rfl⟩

theorem infoStr : (Tryd.prog.info? 9).map (fun i => (i.zero, i.size, i.bytes)) = some (some (.string ⟨#[]⟩), 1, 16) := by kernel_rfl
/-- 'out = append(out, s)' at a row of strings of the call's own. -/
theorem appZ {ops : Array Oper} {rest : List Oper} {o : Oper} {a : Act} {Q : Exit → Act → World → Prop} (hgd : o.guard = none) (s y : Operand)
    (ho : o.op = .call { callee := .builtin .append, args := #[s, y], argTypes := #[43, 43] })
    (w : World) (base : Nat) (v : Value) (n : Nat) (xs : List (List UInt8)) (hs : a.eval s = v) (hown : w.ownsRow base 9 1 v n (strs xs)) (x : List UInt8)
    (hx : a.eval y = .slice (some ⟨w.heap.size, 0, none⟩) 1 1) (hl : n ≤ 1048576) (hbase : base ≤ w.heap.size)
    (h : ∀ v' w', w'.ownsRow base 9 1 v' (n + 1) (strs (xs ++ [x])) → (∀ B, B ≤ base → B ≤ w.heap.size → Below B w w') → w.heap.size < w'.heap.size → w.grownBy w' v.ownBlock → wpList Tryd.prog ops Q rest (a.put o.dst v') w') :
    wpList Tryd.prog ops Q (o :: rest) a (w.alloc (.cells #[.string ⟨x.toArray⟩] 9)) := by
  obtain ⟨i0, hi, hz0, hz1, hz2⟩ := info_parts infoStr
  refine wpList_append_own _ hgd s y _ ho base 9 i0 (.string ⟨#[]⟩) 1 16 Tryd.underlying43 hi hz0 hz1 hz2 rfl (by decide) v n (strs xs) hs (hown.alloc _) ⟨w.heap.size, 0, none⟩ 1 1 [.string ⟨x.toArray⟩] hx rfl ?_ ?_ (by unfold maxLen; omega) (by omega) (by simp; omega) ?_
  · intro j u hj
    match j, hj with
    | 0, hj => simp at hj; subst hj; simp [Addr.add]
  · intro u hu; simp at hu; subst hu; rfl
  · intro v' w' h2 h3 _
    have hsz := h3.size
    simp only [World.size_alloc] at hsz
    refine h v' w' (by rw [strs_snoc]; exact h2) (fun B h4 h5 => ?_) (by omega) ?_
    · refine ((Below.refl B w).alloc h5 _).grown h3 (by simp; omega) (fun k hk => ?_)
      have := (hown.lt k hk).1; omega
    · exact ⟨h3.os, h3.tape, h3.output, by omega, fun k hk hne => by rw [h3.block k (by simp; omega) hne]; exact Below.heap_alloc _ _ _ hk⟩
theorem ownZ_below {w w' : World} {lo n : Nat} {e : TypeId} {v : Value} {vs : List Value} (h : w.ownsRow lo e 1 v n vs) (hb : Below w.heap.size w w') : w'.ownsRow lo e 1 v n vs :=
  ownsRow_keep (l2 := w.heap.size) (h2 := w.heap.size) h (fun g hg => (h.lt g hg).2) (Nat.le_refl _) (Keep.of_below hb (Nat.le_refl _)) (.inl (Nat.le_refl _))
theorem ownZ_form {w : World} {lo n : Nat} {e : TypeId} {v : Value} {vs : List Value} (h : w.ownsRow lo e 1 v n vs) : ∃ A c, v = .slice A n c ∧ n ≤ c := by
  rcases h.2 with ⟨rfl, hn⟩ | ⟨g, cap, cur, rfl, _, _, hc, hm, _⟩
  · exact ⟨none, 0, by rw [hn], by omega⟩
  · exact ⟨_, cap, rfl, hc⟩
theorem words_get {xs : List Int} {j : Nat} {x : Int} (h : xs[j]? = some x) : (xs.take (j + 1)).map Lib.itoa = (xs.take j).map Lib.itoa ++ [Lib.itoa x] := by
  rw [take_snoc h, List.map_append]; rfl

set_option maxHeartbeats 2000000 in
set_option maxRecDepth 100000 in
theorem specFormatNumbers_any (v : Value) (xs : List Int) (w : World) (hs : InI w v xs) (hn : xs.length ≤ 1048576) (hw : wfI xs) :
    Calls Tryd.prog 11 #[v] w fun e w' => e = .returned (.string ⟨(fmtF xs).toArray⟩) ∧ Below w.heap.size w w' := by
  obtain ⟨A, c, rfl, hc, hm, hs⟩ := hs
  have HS := Lib.hid (And.intro hs hw)
  clear hs hw
  have HB0 : Hid (Below w.heap.size w w) := Below.refl _ _
  go_enter Tryd.func11, Tryd.ntmps11
  go_wp2
  go_loopw [3, 9] (fun v i wr => ∃ (j : Nat) (fv : Value), j ≤ xs.length ∧ i = .int .i64 j ∧ fv = v ∧ Hid (wr.ownsRow w.heap.size 9 1 fv j (strs ((xs.take j).map Lib.itoa)) ∧ Below w.heap.size w wr)) (fun _ i _ => xs.length - (intOf i).toNat)
  case atStart =>
    refine ⟨0, _, Nat.zero_le _, rfl, rfl, ?_, (Below.refl _ w).alloc (Nat.le_refl _) _⟩
    exact World.ownsRow_lit (base := w.heap.size) (e := 9) (size := 1) w #[] 0 (Nat.le_refl _) (by unfold maxLen; omega) rfl
  case round =>
    obtain ⟨j, fv, hj, rfl, rfl, HR⟩ := hrel
    by_cases hlt : j < xs.length
    · obtain ⟨b1, o1, x, rfl, hx1, hx2, _⟩ := (HS.out.1.below HR.out.2).at_ (k := j) hlt
      have hwx := wfI_at HS.out.2 hx1
      have HW := Lib.hid (words_get hx1)
      have HX := Lib.hid hwx
      clear hx1 hwx
      go_wp2_with (first | (go_at_call 22; refine (specFormatInt_any _ _ HX.out.1 HX.out.2).mono ?_; rintro e w2 ⟨rfl, hb⟩; have H2 : Hid (w2.ownsRow w.heap.size 9 1 fv j (strs ((xs.take j).map Lib.itoa)) ∧ Below w.heap.size w w2) := ⟨ownZ_below HR.out.1 hb, HR.out.2.trans (hb.mono HR.out.2.size)⟩; clear hb) | (at_builtin; refine appZ rfl _ _ rfl w2 w.heap.size fv j _ rfl H2.out.1 (Lib.itoa x) rfl (by omega) H2.out.2.size ?_; intro v' w3 hown3 hb3 hsz3 _; have H3 : Hid (w3.ownsRow w.heap.size 9 1 v' (j + 1) (strs ((xs.take (j + 1)).map Lib.itoa)) ∧ Below w.heap.size w w3) := ⟨by rw [HW.out]; exact hown3, H2.out.2.trans (hb3 w.heap.size (Nat.le_refl _) H2.out.2.size)⟩; clear hown3 hb3 hsz3))
      all_goals exact ⟨⟨j + 1, _, by omega, by go_num, rfl, H3.out⟩, by simp [intOf]; omega⟩
    · obtain rfl : j = xs.length := by omega
      obtain ⟨A1, c1, rfl, _⟩ := ownZ_form HR.out.1
      have HT : Hid (xs.take xs.length = xs) := List.take_length
      have HL : Hid (SlV wr A1 (strs (xs.map Lib.itoa)) ∧ (Lib.join (xs.map Lib.itoa) [44]).length ≤ 22 * xs.length) := ⟨by have := SlV.of_own HR.out.1; rwa [HT.out] at this, fmt_bound HS.out.2⟩
      by_cases h0 : xs = []
      · subst h0
        go_wp2
        go_ret
        exact ⟨rfl, HR.out.2⟩
      · have hpos : 0 < xs.length := List.length_pos_iff.2 h0
        have HF : Hid (fmtF xs = Lib.join (xs.map Lib.itoa) [44]) := by show _ = _; rw [fmtF, if_neg h0]
        clear h0
        go_wp2_with fail
        have hj := specJoin_any A1 c1 (xs.map Lib.itoa) [44] wr HL.out.1 (by rw [List.length_map]; exact hn) (by simp) (by have := HL.out.2; omega)
        rw [List.length_map] at hj
        refine hj.mono ?_
        rintro e w2 ⟨rfl, rfl⟩
        go_wp2
        go_ret
        exact ⟨by rw [HF.out]; rfl, HR.out.2⟩

def tabP (w : World) : Prop := Lib.TabIs Tryd.prog w "internal/strconv.uint64pow10" .u64 Lib.pow10Tab
theorem tabP_isSome : (Tryd.prog.globalNamed "internal/strconv.uint64pow10").isSome = true := by kernel_rfl
theorem tabP.below {B : Nat} {w w' : World} (h : tabP w) (hb : Below B w w') (hB : w.heap.size ≤ B) : tabP w' :=
  Joins.tab_stays (Option.some_get tabP_isSome).symm h hb hB
theorem tabP.drewN {w : World} (h : tabP w) (q : Nat) : tabP (w.drewN q) := h.below (below_of_drewN w.heap.size w q) (Nat.le_refl _)
theorem below_grow (w : World) (k : Nat) (os : Array Obj) : Below w.heap.size w (Sort.grow (w.drewN k) os) :=
  ⟨rfl, rfl, rfl, by show _ ≤ (w.heap ++ os).size; simp, fun i hi => by show (w.heap ++ os)[i]? = _; exact Array.getElem?_append_left hi⟩

theorem implFormatInt_any (n : Int) (w : World) (h0 : -9223372036854775808 ≤ n) (h1 : n ≤ 9223372036854775807) (ht : tabP w) :
    Calls Tryd.prog 28 #[.int .i64 n] w fun e w' => e = .returned (.string ⟨(Lib.itoa n).toArray⟩) ∧ Below w.heap.size w w' := by
  go_enter Tryd.func28, Tryd.ntmps28
  go_wp2_with fail
  refine (Tryd.strconv_Itoa n h0 h1 _ ht).mono ?_
  rintro e w2 ⟨rfl, k, os, rfl⟩
  go_wp2
  go_ret
  exact ⟨rfl, below_grow _ _ _⟩

theorem implJoin_any (v : Value) (lo n : Nat) (ls : List (List UInt8)) (sep : List UInt8) (w : World) (hs : w.ownsRow lo 9 1 v n (strs ls)) (hn : n ≤ 1048576) (h1 : 0 < n) (hlen : (Lib.join ls sep).length ≤ 1099511627776) :
    Calls Tryd.prog 29 #[v, .string ⟨sep.toArray⟩] w fun e w' => e = .returned (.string ⟨(Lib.join ls sep).toArray⟩) ∧ Below w.heap.size w w' := by
  obtain ⟨A, c, rfl, hc⟩ := ownZ_form hs
  have hl : ls.length = n := by have := hs.1; rw [strs_length] at this; simpa using this
  obtain ⟨b, off, x, rfl, -, -, hb⟩ := (SlV.of_own hs).at_ (k := 0) (by rw [strs_length, hl]; exact h1)
  have hcells : ∀ (j : Nat) x, (ls.map fun l => (⟨l.toArray⟩ : ByteArray))[j]? = some x → w.cell? ⟨b, off + j, none⟩ = some (.string x) := by
    intro j x hx
    rcases SlV.of_own hs with h | ⟨b', off', he, h⟩
    · have h2 := congrArg List.length h
      rw [strs_length, hl, List.length_nil] at h2; omega
    · injection he with he; injection he with e1 e2 _
      subst e1; subst e2
      refine h j _ ?_
      rw [List.getElem?_map, Option.map_eq_some_iff] at hx
      obtain ⟨l, h3, rfl⟩ := hx
      simp [strs, h3]
  have hm : (ls.map fun l => (⟨l.toArray⟩ : ByteArray)).map (·.data.toList) = ls := by simp [Function.comp_def]
  have HJ := Tryd.strings_Join b off c (ls.map fun l => (⟨l.toArray⟩ : ByteArray)) ⟨sep.toArray⟩ w hcells hb (by rw [List.length_map, hl]; omega) (by rw [List.length_map, hl]; exact hc) (by rw [hm]; exact Nat.le_trans hlen (by decide))
  rw [hm, List.length_map, hl] at HJ
  go_enter Tryd.func29, Tryd.ntmps29
  go_wp2_with fail
  refine HJ.mono ?_
  rintro e w2 ⟨rfl, hb2⟩
  go_wp2
  go_ret
  exact ⟨rfl, hb2⟩

set_option maxHeartbeats 2000000 in
set_option maxRecDepth 100000 in
theorem implFormatNumbers_any (v : Value) (xs : List Int) (w : World) (hs : InI w v xs) (hn : xs.length ≤ 1048576) (hw : wfI xs) (ht : tabP w) :
    Calls Tryd.prog 14 #[v] w fun e w' => e = .returned (.string ⟨(fmtF xs).toArray⟩) ∧ Below w.heap.size w w' := by
  obtain ⟨A, c, rfl, hc, hm, hs⟩ := hs
  have HS := Lib.hid (And.intro hs (And.intro hw ht))
  clear hs hw ht
  have HB0 : Hid (Below w.heap.size w w) := Below.refl _ _
  by_cases h0 : xs = []
  · subst h0
    go_enter Tryd.func14, Tryd.ntmps14
    go_wp2
    go_ret
    exact ⟨rfl, HB0.out⟩
  have hpos : 0 < xs.length := List.length_pos_iff.2 h0
  have HF : Hid (fmtF xs = Lib.join (xs.map Lib.itoa) [44]) := by show _ = _; rw [fmtF, if_neg h0]
  clear h0
  have e0 : ((xs.length : Int) == 0) = false := by have : ¬ (xs.length : Int) = 0 := by omega
                                                   simpa using this
  go_enter Tryd.func14, Tryd.ntmps14
  go_wp2
  go_loopw [3, 11] (fun v i wr => ∃ (j : Nat) (fv : Value), j ≤ xs.length ∧ i = .int .i64 j ∧ fv = v ∧ Hid (wr.ownsRow w.heap.size 9 1 fv j (strs ((xs.take j).map Lib.itoa)) ∧ Below w.heap.size w wr)) (fun _ i _ => xs.length - (intOf i).toNat)
  case atStart => exact ⟨0, _, Nat.zero_le _, rfl, rfl, World.ownsRow_nil _ _ _ _, HB0.out⟩
  case round =>
    obtain ⟨j, fv, hj, rfl, rfl, HR⟩ := hrel
    by_cases hlt : j < xs.length
    · obtain ⟨b1, o1, x, rfl, hx1, hx2, _⟩ := (HS.out.1.below HR.out.2).at_ (k := j) hlt
      have hwx := wfI_at HS.out.2.1 hx1
      have HW := Lib.hid (words_get hx1)
      have HX := Lib.hid hwx
      have HT : Hid (tabP wr) := HS.out.2.2.below HR.out.2 (Nat.le_refl _)
      clear hx1 hwx
      go_wp2_with (first | (go_at_call 28; refine (implFormatInt_any _ _ HX.out.1 HX.out.2 (by first | exact HT.out | exact HT.out.drewN _)).mono ?_; rintro e w2 ⟨rfl, hb⟩; have H2 : Hid (w2.ownsRow w.heap.size 9 1 fv j (strs ((xs.take j).map Lib.itoa)) ∧ Below w.heap.size w w2) := ⟨ownZ_below HR.out.1 hb, HR.out.2.trans (hb.mono HR.out.2.size)⟩; clear hb) | (at_builtin; refine appZ rfl _ _ rfl w2 w.heap.size fv j _ rfl H2.out.1 (Lib.itoa x) rfl (by omega) H2.out.2.size ?_; intro v' w3 hown3 hb3 hsz3 _; have H3 : Hid (w3.ownsRow w.heap.size 9 1 v' (j + 1) (strs ((xs.take (j + 1)).map Lib.itoa)) ∧ Below w.heap.size w w3) := ⟨by rw [HW.out]; exact hown3, H2.out.2.trans (hb3 w.heap.size (Nat.le_refl _) H2.out.2.size)⟩; clear hown3 hb3 hsz3))
      all_goals exact ⟨⟨j + 1, _, by omega, by go_num, rfl, H3.out⟩, by simp [intOf]; omega⟩
    · obtain rfl : j = xs.length := by omega
      have HT : Hid (wr.ownsRow w.heap.size 9 1 fv xs.length (strs (xs.map Lib.itoa)) ∧ (Lib.join (xs.map Lib.itoa) [44]).length ≤ 22 * xs.length) := ⟨by have := HR.out.1; rwa [List.take_length] at this, fmt_bound HS.out.2.1⟩
      go_wp2_with fail
      refine (implJoin_any fv _ _ (xs.map Lib.itoa) [44] wr HT.out.1 hn hpos (by have := HT.out.2; omega)).mono ?_
      rintro e w2 ⟨rfl, hb⟩
      have HB2 : Hid (Below w.heap.size w w2) := HR.out.2.trans (hb.mono HR.out.2.size)
      clear hb
      go_wp2
      go_ret
      exact ⟨by rw [HF.out]; rfl, HB2.out⟩
end Go.Proofs.YtklhplifceedeaaDoor
