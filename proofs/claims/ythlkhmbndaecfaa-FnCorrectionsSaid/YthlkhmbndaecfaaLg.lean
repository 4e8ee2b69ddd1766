/- Leagues: slices of results, each of four cells; the laws' helpers for them. -/
import Derived.Test.YthlkhmbndaecfaaStd
import Derived.Test.YthlkhmbndaecfaaNum
import Derived.Deep.QuietTactic
import Derived.BigQuiet
import Derived.StillTailTactics
namespace Go.Proofs.Ythlkhmbndaecfaa
open Go.ChangeShapes Go.WideShapes Go.ChangeAt Go.RowKit

structure Res where
  h : Int
  a : Int
  g : Int
  t : Int
deriving Inhabited
def Res.val (r : Res) : Value := .agg #[.int .i64 r.h, .int .i64 r.a, .int .i64 r.g, .int .i64 r.t]
def Res.zero : Res := ⟨0, 0, 0, 0⟩
/-- The cells of results, one behind the other. -/
def flat : List Res → List Int
  | [] => []
  | r :: rs => r.h :: r.a :: r.g :: r.t :: flat rs
theorem flat_length : ∀ rs : List Res, (flat rs).length = rs.length * 4
  | [] => rfl
  | r :: rs => by simp only [flat, List.length_cons, flat_length rs]; omega
theorem flat_get : ∀ {rs : List Res} {k : Nat} {r : Res}, rs[k]? = some r → (flat rs)[k * 4]? = some r.h ∧ (flat rs)[k * 4 + 1]? = some r.a ∧ (flat rs)[k * 4 + 2]? = some r.g ∧ (flat rs)[k * 4 + 3]? = some r.t
  | r' :: rs, 0, r, h => by
    simp only [List.getElem?_cons_zero, Option.some.injEq] at h
    subst h; exact ⟨rfl, rfl, rfl, rfl⟩
  | r' :: rs, k + 1, r, h => by
    rw [List.getElem?_cons_succ] at h
    have ih := flat_get h
    rw [show (k + 1) * 4 = k * 4 + 4 from by omega]
    exact ih
theorem flat_set : ∀ {rs : List Res} {k : Nat}, k < rs.length → ∀ (x y z u : Int), ((((flat rs).set (k * 4) x).set (k * 4 + 1) y).set (k * 4 + 2) z).set (k * 4 + 3) u = flat (rs.set k ⟨x, y, z, u⟩)
  | r' :: rs, 0, _, x, y, z, u => rfl
  | r' :: rs, k + 1, h, x, y, z, u => by
    have ih := flat_set (rs := rs) (k := k) (by simpa using h) x y z u
    rw [show (k + 1) * 4 = k * 4 + 4 from by omega]
    show r'.h :: r'.a :: r'.g :: r'.t :: ((((flat rs).set (k * 4) x).set (k * 4 + 1) y).set (k * 4 + 2) z).set (k * 4 + 3) u = _
    rw [ih]; rfl
theorem flat_append : ∀ (rs qs : List Res), flat (rs ++ qs) = flat rs ++ flat qs
  | [], _ => rfl
  | r :: rs, qs => by simp [flat, flat_append rs qs]
theorem flat_zeros : ∀ n, flat (List.replicate n Res.zero) = List.replicate (n * 4) 0
  | 0 => rfl
  | n + 1 => by
    rw [List.replicate_succ, flat, flat_zeros n, show (n + 1) * 4 = n * 4 + 1 + 1 + 1 + 1 from by omega]
    simp only [List.replicate_succ, Res.zero]
/-- The slice address A reads as the results rs. -/
def SlR (w : World) (A : Option Addr) (rs : List Res) : Prop := SlI w A (flat rs)
theorem SlR.at_ {w : World} {A : Option Addr} {rs : List Res} (h : SlR w A rs) {k : Nat} (hk : k < rs.length) :
    ∃ b off r, A = some ⟨b, off, none⟩ ∧ rs[k]? = some r ∧ w.cell? ⟨b, off + k * 4, none⟩ = some (.int .i64 r.h) ∧ w.cell? ⟨b, off + k * 4 + 1, none⟩ = some (.int .i64 r.a) ∧
      w.cell? ⟨b, off + k * 4 + 2, none⟩ = some (.int .i64 r.g) ∧ w.cell? ⟨b, off + k * 4 + 3, none⟩ = some (.int .i64 r.t) ∧ b < w.heap.size := by
  have h0 : rs[k]? = some rs[k] := List.getElem?_eq_getElem hk
  obtain ⟨f1, f2, f3, f4⟩ := flat_get h0
  have hl := flat_length rs
  rcases h with h | ⟨b, off, rfl, h⟩
  · rw [h] at hl; simp at hl; omega
  · have c1 := h _ _ f1
    exact ⟨b, off, rs[k], rfl, h0, c1, h _ _ f2, h _ _ f3, h _ _ f4, block_lt_of_cell c1⟩
theorem SlR.below {w w' : World} {A : Option Addr} {rs : List Res} (h : SlR w A rs) (hb : Below w.heap.size w w') : SlR w' A rs := SlI.below h hb

def FrR (w : World) (lo hi : Nat) (v : Value) (rs : List Res) : Prop :=
  w.ownsRow lo 39 4 v rs.length (ints (flat rs)) ∧ (∀ g, v.ownBlock = some g → g < hi) ∧ hi ≤ w.heap.size
theorem FrR.form {w : World} {lo hi : Nat} {v : Value} {rs : List Res} (h : FrR w lo hi v rs) : ∃ A c, v = .slice A rs.length c ∧ rs.length ≤ c ∧ c ≤ maxLen := by
  rcases h.1.2 with ⟨rfl, hn⟩ | ⟨g, cap, cur, rfl, _, _, hc, hm, _⟩
  · exact ⟨none, 0, by rw [hn], by omega, by unfold maxLen; omega⟩
  · exact ⟨_, cap, rfl, hc, hm⟩
theorem FrR.sl {w : World} {lo hi n c : Nat} {A : Option Addr} {rs : List Res} (h : FrR w lo hi (.slice A n c) rs) : SlR w A rs := by
  rcases h.1.2 with ⟨he, hn⟩ | ⟨g, cap, cur, he, _, hh, hc, hm, hs, ht⟩
  · have : rs = [] := List.eq_nil_of_length_eq_zero hn
    subst this; exact .inl rfl
  · injection he with h1 h2 h3
    subst h1
    refine .inr ⟨g, 0, rfl, fun k x hx => ?_⟩
    have hl := flat_length rs
    have hk : k < (flat rs).length := by
      rcases Nat.lt_or_ge k (flat rs).length with h | h
      · exact h
      · rw [List.getElem?_eq_none h] at hx; cases hx
    rw [cell_of_row w g (0 + k) cur _ _ hh, Nat.zero_add]
    have h5 : (ints (flat rs))[k]? = some (.int .i64 x) := ints_get hx
    rw [← ht, List.getElem?_take, if_pos (by omega)] at h5
    simpa using h5
theorem FrR.keep {w w' : World} {lo hi l2 h2 : Nat} {v : Value} {rs : List Res} (h : FrR w lo hi v rs) (hk : Keep l2 h2 w w') (hd : hi ≤ l2 ∨ h2 ≤ lo) : FrR w' lo hi v rs := by
  obtain ⟨h1, hg, hs⟩ := h
  refine ⟨⟨h1.1, ?_⟩, hg, Nat.le_trans hs hk.size⟩
  rcases h1.2 with h1 | ⟨g, cap, cur, rfl, hb, hh, r⟩
  · exact .inl h1
  · have hgh := hg g rfl
    exact .inr ⟨g, cap, cur, rfl, hb, by rw [hk.block g (by omega) (by omega)]; exact hh, r⟩
theorem FrR.grow {w w' : World} {lo hi : Nat} {v : Value} {rs : List Res} (h : FrR w lo hi v rs) (hb : Below w.heap.size w w') : FrR w' lo hi v rs :=
  h.keep (Keep.of_below (lo := hi) (hi := hi) hb (Nat.le_refl _)) (.inl (Nat.le_refl _))
theorem FrR.of_own {w : World} {lo : Nat} {v : Value} {rs : List Res} (h : w.ownsRow lo 39 4 v rs.length (ints (flat rs))) : FrR w lo w.heap.size v rs :=
  ⟨h, fun g hg => (h.lt g hg).2, Nat.le_refl _⟩
theorem FrR.wide {w : World} {lo hi lo' hi' : Nat} {v : Value} {rs : List Res} (h : FrR w lo hi v rs) (h1 : lo' ≤ lo) (h2 : hi ≤ hi') (h3 : hi' ≤ w.heap.size) : FrR w lo' hi' v rs := by
  obtain ⟨h, hg, hs⟩ := h
  refine ⟨⟨h.1, ?_⟩, fun g e => Nat.lt_of_lt_of_le (hg g e) h2, h3⟩
  rcases h.2 with h | ⟨g, cap, cur, rfl, hb, r⟩
  · exact .inl h
  · exact .inr ⟨g, cap, cur, rfl, by omega, r⟩
theorem FrR.nil (w : World) {lo hi : Nat} (h : hi ≤ w.heap.size) : FrR w lo hi (.slice none 0 0) [] :=
  ⟨World.ownsRow_nil _ _ _ _, fun g hg => by simp [Value.ownBlock] at hg, h⟩
/-- A result that is there: where its cells lie, that they may be written, and what holds behind four stores. -/
theorem FrR.at_ {w : World} {lo hi n c : Nat} {A : Option Addr} {rs : List Res} (h : FrR w lo hi (.slice A n c) rs) {k : Nat} (hk : k < rs.length) :
    ∃ g r, A = some ⟨g, 0, none⟩ ∧ lo ≤ g ∧ g < hi ∧ rs[k]? = some r ∧
      (w.cell? ⟨g, k * 4, none⟩ = some (.int .i64 r.h) ∧ w.cell? ⟨g, k * 4 + 1, none⟩ = some (.int .i64 r.a) ∧ w.cell? ⟨g, k * 4 + 2, none⟩ = some (.int .i64 r.g) ∧ w.cell? ⟨g, k * 4 + 3, none⟩ = some (.int .i64 r.t)) ∧
      (∀ j, w.frozen? ⟨g, j, none⟩ = false) ∧
      ∀ x y z u, FrR ((((w.setCell ⟨g, k * 4, none⟩ (.int .i64 x)).setCell ⟨g, k * 4 + 1, none⟩ (.int .i64 y)).setCell ⟨g, k * 4 + 2, none⟩ (.int .i64 z)).setCell ⟨g, k * 4 + 3, none⟩ (.int .i64 u)) lo hi (.slice A n c) (rs.set k ⟨x, y, z, u⟩) ∧
        Keep lo hi w ((((w.setCell ⟨g, k * 4, none⟩ (.int .i64 x)).setCell ⟨g, k * 4 + 1, none⟩ (.int .i64 y)).setCell ⟨g, k * 4 + 2, none⟩ (.int .i64 z)).setCell ⟨g, k * 4 + 3, none⟩ (.int .i64 u)) := by
  obtain ⟨A', c', he, _⟩ := h.form
  injection he with _ hn _
  subst hn
  obtain ⟨h1, hg, hs⟩ := h
  have h1' := h1
  have hl := flat_length rs
  rcases h1.2 with ⟨he, hn⟩ | ⟨g, cap, cur, he, hb, hh, r⟩
  · omega
  · injection he with e1 e2 e3
    subst e1; subst e3
    have hgh := hg g rfl
    have hx : rs[k]? = some rs[k] := List.getElem?_eq_getElem hk
    obtain ⟨f1, f2, f3, f4⟩ := flat_get hx
    refine ⟨g, rs[k], rfl, hb, hgh, hx, ⟨?_, ?_, ?_, ?_⟩, fun j => h1'.frozenAt j, fun x y z u => ⟨⟨?_, fun g' hg' => hg g' hg', by simpa [World.setCell] using hs⟩, ((((Keep.refl _ _ _).setCell hb hgh _).setCell hb hgh _).setCell hb hgh _).setCell hb hgh _⟩⟩
    · rw [h1'.cellAt _ (by omega)]; exact ints_get f1
    · rw [h1'.cellAt _ (by omega)]; exact ints_get f2
    · rw [h1'.cellAt _ (by omega)]; exact ints_get f3
    · rw [h1'.cellAt _ (by omega)]; exact ints_get f4
    · have s1 := (((((h1'.stored (k * 4) (.int .i64 x)).1.stored (k * 4 + 1) (.int .i64 y)).1.stored (k * 4 + 2) (.int .i64 z)).1).stored (k * 4 + 3) (.int .i64 u)).1
      rw [ints_set, ints_set, ints_set, ints_set, flat_set hk] at s1
      rw [List.length_set]; exact s1

theorem infoR : (Try.prog.info? 39).map (fun i => (i.zero, i.size, i.bytes)) = some (some (.agg #[.int .i64 0, .int .i64 0, .int .i64 0, .int .i64 0]), 4, 32) := by kernel_rfl
theorem made4 (n : Nat) : (madeCells #[Value.int .i64 0, .int .i64 0, .int .i64 0, .int .i64 0] (n * 4)).toList = ints (List.replicate (n * 4) 0) := by
  apply List.ext_getElem?
  intro j
  by_cases hj : j < n * 4
  · have hm : j % 4 < 4 := Nat.mod_lt _ (by omega)
    simp only [madeCells, ints]
    rw [List.getElem?_map, List.getElem?_replicate, if_pos hj]
    simp [hj]
    have : j % 4 = 0 ∨ j % 4 = 1 ∨ j % 4 = 2 ∨ j % 4 = 3 := by omega
    rcases this with h | h | h | h <;> simp [h]
  · rw [List.getElem?_eq_none (by simp [madeCells]; omega), List.getElem?_eq_none (by simp [ints]; omega)]
theorem makeR {ops : Array Oper} {rest : List Oper} {o : Oper} {a : Act} {Q : Exit → Act → World → Prop} (hgd : o.guard = none) (l c : Operand)
    (ho : o.op = Op.makeSlice 23 l c) (w : World) (n : Nat) (hl : a.eval l = .int .i64 n) (hc : a.eval c = .int .i64 n) (hn : n ≤ 1048576)
    (h : ∀ w', FrR w' w.heap.size w'.heap.size (.slice (some ⟨w.heap.size, 0, none⟩) n n) (List.replicate n Res.zero) → Below w.heap.size w w' → w'.heap.size = w.heap.size + 1 → wpList Try.prog ops Q rest (a.put o.dst (.slice (some ⟨w.heap.size, 0, none⟩) n n)) w') :
    wpList Try.prog ops Q (o :: rest) a w := by
  obtain ⟨i0, hi, hz0, hz1, hz2⟩ := info_parts infoR
  refine wpList_plain hgd fun K hK' => ?_
  have hr := run_make (P := Try.prog) w 23 39 i0 _ Try.underlying23 hi hz0 .i64 .i64 n n (by omega) (Int.le_refl _) (by rw [hz2]; omega) (by omega)
  simp only [Int.toNat_natCast] at hr
  unfold Oper.wp
  simp [execOp, ho, hl, hc, hr, Result.andThen]
  refine hK' _ _ (h _ ?_ ((Below.refl _ w).alloc (Nat.le_refl _) _) (by simp))
  rw [hz1]
  have h1 := World.ownsRow_lit (base := w.heap.size) (e := 39) (size := 4) w (madeCells #[Value.int .i64 0, .int .i64 0, .int .i64 0, .int .i64 0] (n * 4)) n (Nat.le_refl _) (by unfold maxLen; omega) (size_madeCells _ _)
  rw [made4, ← flat_zeros] at h1
  exact FrR.of_own (by rw [List.length_replicate]; exact h1)

def seqR (k : Int) (n : Nat) : List Res := (List.range n).map fun (i : Nat) => ⟨k + 4 * (i : Int), k + 4 * (i : Int) + 1, k + 4 * (i : Int) + 1 + 1, k + 4 * (i : Int) + 1 + 1 + 1⟩
theorem seqR_length (k : Int) (n : Nat) : (seqR k n).length = n := by simp [seqR]
theorem seqR_get {k : Int} {n j : Nat} (h : j < n) : (seqR k n)[j]? = some ⟨k + 4 * (j : Int), k + 4 * (j : Int) + 1, k + 4 * (j : Int) + 1 + 1, k + 4 * (j : Int) + 1 + 1 + 1⟩ := by simp [seqR, h]
theorem join_set {α : Type} {xs ys : List α} {j : Nat} {x : α} (hl : xs.length = ys.length) (h : xs[j]? = some x) : (xs.take j ++ ys.drop j).set j x = xs.take (j + 1) ++ ys.drop (j + 1) := by
  have hj : j < xs.length := by
    rcases Nat.lt_or_ge j xs.length with h' | h'
    · exact h'
    · rw [List.getElem?_eq_none h'] at h; cases h
  have hlt : (xs.take j).length = j := by rw [List.length_take]; omega
  rw [List.set_append_right _ _ (by omega), hlt, Nat.sub_self, List.drop_eq_getElem_cons (by omega), List.set_cons_zero, take_snoc h]
  simp

structure LeagueV where
  clubs : Int
  results : List Res
/-- The value v reads as the league x. -/
def InL (w : World) (v : Value) (x : LeagueV) : Prop :=
  ∃ A c, v = .agg #[.int .i64 x.clubs, .slice A x.results.length c] ∧ x.results.length ≤ c ∧ c ≤ maxLen ∧ SlR w A x.results ∧ (Lit.int .i64 x.clubs).wf = true
theorem InL.below {w w' : World} {v : Value} {x : LeagueV} (h : InL w v x) (hb : Below w.heap.size w w') : InL w' v x := by
  obtain ⟨A, c, rfl, h1, h2, h3, h4⟩ := h
  exact ⟨A, c, rfl, h1, h2, h3.below hb, h4⟩
def OwL (w : World) (lo hi : Nat) (v : Value) (x : LeagueV) : Prop := ∃ u, v = .agg #[.int .i64 x.clubs, u] ∧ FrR w lo hi u x.results ∧ (Lit.int .i64 x.clubs).wf = true
theorem OwL.in_ {w : World} {lo hi : Nat} {v : Value} {x : LeagueV} (h : OwL w lo hi v x) : InL w v x := by
  obtain ⟨u, rfl, h, hw⟩ := h
  obtain ⟨A, c, rfl, h1, h2⟩ := h.form
  exact ⟨A, c, rfl, h1, h2, h.sl, hw⟩
theorem OwL.keep {w w' : World} {lo hi l2 h2 : Nat} {v : Value} {x : LeagueV} (h : OwL w lo hi v x) (hk : Keep l2 h2 w w') (hd : hi ≤ l2 ∨ h2 ≤ lo) : OwL w' lo hi v x := by
  obtain ⟨u, rfl, h, hw⟩ := h
  exact ⟨u, rfl, h.keep hk hd, hw⟩
theorem OwL.grow {w w' : World} {lo hi : Nat} {v : Value} {x : LeagueV} (h : OwL w lo hi v x) (hb : Below w.heap.size w w') : OwL w' lo hi v x := by
  obtain ⟨u, rfl, h, hw⟩ := h
  exact ⟨u, rfl, h.grow hb, hw⟩
def markedL (k : Int) (x : LeagueV) : LeagueV := ⟨x.clubs, seqR k x.results.length⟩
end Go.Proofs.Ythlkhmbndaecfaa
