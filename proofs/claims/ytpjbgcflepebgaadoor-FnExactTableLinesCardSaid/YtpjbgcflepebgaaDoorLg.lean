/- Leagues: slices of results, each of four cells; the laws' helpers for them. -/
import Derived.Test.YtpjbgcflepebgaaDoorStd
import Derived.Test.YtpjbgcflepebgaaDoorNum
import Derived.Deep.QuietTactic
import Derived.BigQuiet
import Derived.StillTailTactics
namespace Go.Proofs.YtpjbgcflepebgaaDoor
open Go.ChangeShapes Go.WideShapes Go.ChangeAt Go.RowKit

structure Res where
  h : Int
  a : Int
  g : Int
  t : Int
deriving Inhabited
def Res.val (r : Res) : Value := .agg #[.int .i64 r.h, .int .i64 r.a, .int .i64 r.g, .int .i64 r.t]
def Res.zero : Res := ⟨0, 0, 0, 0⟩
/-- The cells of results, one behind the other. -/
def flat : List Res → List Int
  | [] => []
  | r :: rs => r.h :: r.a :: r.g :: r.t :: flat rs
theorem flat_length : ∀ rs : List Res, (flat rs).length = rs.length * 4
  | [] => rfl
  | r :: rs => by simp only [flat, List.length_cons, flat_length rs]; omega
theorem flat_get : ∀ {rs : List Res} {k : Nat} {r : Res}, rs[k]? = some r → (flat rs)[k * 4]? = some r.h ∧ (flat rs)[k * 4 + 1]? = some r.a ∧ (flat rs)[k * 4 + 2]? = some r.g ∧ (flat rs)[k * 4 + 3]? = some r.t
  | r' :: rs, 0, r, h => by
    simp only [List.getElem?_cons_zero, Option.some.injEq] at h
    subst h; exact ⟨rfl, rfl, rfl, rfl⟩
  | r' :: rs, k + 1, r, h => by
    rw [List.getElem?_cons_succ] at h
    have ih := flat_get h
    rw [show (k + 1) * 4 = k * 4 + 4 from by omega]
    exact ih
theorem flat_set : ∀ {rs : List Res} {k : Nat}, k < rs.length → ∀ (x y z u : Int), ((((flat rs).set (k * 4) x).set (k * 4 + 1) y).set (k * 4 + 2) z).set (k * 4 + 3) u = flat (rs.set k ⟨x, y, z, u⟩)
  | r' :: rs, 0, _, x, y, z, u => rfl
  | r' :: rs, k + 1, h, x, y, z, u => by
    have ih := flat_set (rs := rs) (k := k) (by simpa using h) x y z u
    rw [show (k + 1) * 4 = k * 4 + 4 from by omega]
    show r'.h :: r'.a :: r'.g :: r'.t :: ((((flat rs).set (k * 4) x).set (k * 4 + 1) y).set (k * 4 + 2) z).set (k * 4 + 3) u = _
    rw [ih]; rfl
theorem flat_append : ∀ (rs qs : List Res), flat (rs ++ qs) = flat rs ++ flat qs
  | [], _ => rfl
  | r :: rs, qs => by simp [flat, flat_append rs qs]
theorem flat_zeros : ∀ n, flat (List.replicate n Res.zero) = List.replicate (n * 4) 0
  | 0 => rfl
  | n + 1 => by
    rw [List.replicate_succ, flat, flat_zeros n, show (n + 1) * 4 = n * 4 + 1 + 1 + 1 + 1 from by omega]
    simp only [List.replicate_succ, Res.zero]
/-- The slice address A reads as the results rs. -/
def SlR (w : World) (A : Option Addr) (rs : List Res) : Prop := SlI w A (flat rs)
theorem SlR.at_ {w : World} {A : Option Addr} {rs : List Res} (h : SlR w A rs) {k : Nat} (hk : k < rs.length) :
    ∃ b off r, A = some ⟨b, off, none⟩ ∧ rs[k]? = some r ∧ w.cell? ⟨b, off + k * 4, none⟩ = some (.int .i64 r.h) ∧ w.cell? ⟨b, off + k * 4 + 1, none⟩ = some (.int .i64 r.a) ∧
      w.cell? ⟨b, off + k * 4 + 2, none⟩ = some (.int .i64 r.g) ∧ w.cell? ⟨b, off + k * 4 + 3, none⟩ = some (.int .i64 r.t) ∧ b < w.heap.size := by
  have h0 : rs[k]? = some rs[k] := List.getElem?_eq_getElem hk
  obtain ⟨f1, f2, f3, f4⟩ := flat_get h0
  have hl := flat_length rs
  rcases h with h | ⟨b, off, rfl, h⟩
  · rw [h] at hl; simp at hl; omega
  · have c1 := h _ _ f1
    exact ⟨b, off, rs[k], rfl, h0, c1, h _ _ f2, h _ _ f3, h _ _ f4, block_lt_of_cell c1⟩
theorem SlR.below {w w' : World} {A : Option Addr} {rs : List Res} (h : SlR w A rs) (hb : Below w.heap.size w w') : SlR w' A rs := SlI.below h hb

def FrR (w : World) (lo hi : Nat) (v : Value) (rs : List Res) : Prop :=
  w.ownsRow lo 52 4 v rs.length (ints (flat rs)) ∧ (∀ g, v.ownBlock = some g → g < hi) ∧ hi ≤ w.heap.size
theorem FrR.form {w : World} {lo hi : Nat} {v : Value} {rs : List Res} (h : FrR w lo hi v rs) : ∃ A c, v = .slice A rs.length c ∧ rs.length ≤ c ∧ c ≤ maxLen := by
  rcases h.1.2 with ⟨rfl, hn⟩ | ⟨g, cap, cur, rfl, _, _, hc, hm, _⟩
  · exact ⟨none, 0, by rw [hn], by omega, by unfold maxLen; omega⟩
  · exact ⟨_, cap, rfl, hc, hm⟩
theorem FrR.sl {w : World} {lo hi n c : Nat} {A : Option Addr} {rs : List Res} (h : FrR w lo hi (.slice A n c) rs) : SlR w A rs := by
  rcases h.1.2 with ⟨he, hn⟩ | ⟨g, cap, cur, he, _, hh, hc, hm, hs, ht⟩
  · have : rs = [] := List.eq_nil_of_length_eq_zero hn
    subst this; exact .inl rfl
  · injection he with h1 h2 h3
    subst h1
    refine .inr ⟨g, 0, rfl, fun k x hx => ?_⟩
    have hl := flat_length rs
    have hk : k < (flat rs).length := by
      rcases Nat.lt_or_ge k (flat rs).length with h | h
      · exact h
      · rw [List.getElem?_eq_none h] at hx; cases hx
    rw [cell_of_row w g (0 + k) cur _ _ hh, Nat.zero_add]
    have h5 : (ints (flat rs))[k]? = some (.int .i64 x) := ints_get hx
    rw [← ht, List.getElem?_take, if_pos (by omega)] at h5
    simpa using h5
theorem FrR.keep {w w' : World} {lo hi l2 h2 : Nat} {v : Value} {rs : List Res} (h : FrR w lo hi v rs) (hk : Keep l2 h2 w w') (hd : hi ≤ l2 ∨ h2 ≤ lo) : FrR w' lo hi v rs := by
  obtain ⟨h1, hg, hs⟩ := h
  refine ⟨⟨h1.1, ?_⟩, hg, Nat.le_trans hs hk.size⟩
  rcases h1.2 with h1 | ⟨g, cap, cur, rfl, hb, hh, r⟩
  · exact .inl h1
  · have hgh := hg g rfl
    exact .inr ⟨g, cap, cur, rfl, hb, by rw [hk.block g (by omega) (by omega)]; exact hh, r⟩
theorem FrR.grow {w w' : World} {lo hi : Nat} {v : Value} {rs : List Res} (h : FrR w lo hi v rs) (hb : Below w.heap.size w w') : FrR w' lo hi v rs :=
  h.keep (Keep.of_below (lo := hi) (hi := hi) hb (Nat.le_refl _)) (.inl (Nat.le_refl _))
theorem FrR.of_own {w : World} {lo : Nat} {v : Value} {rs : List Res} (h : w.ownsRow lo 52 4 v rs.length (ints (flat rs))) : FrR w lo w.heap.size v rs :=
  ⟨h, fun g hg => (h.lt g hg).2, Nat.le_refl _⟩
theorem FrR.wide {w : World} {lo hi lo' hi' : Nat} {v : Value} {rs : List Res} (h : FrR w lo hi v rs) (h1 : lo' ≤ lo) (h2 : hi ≤ hi') (h3 : hi' ≤ w.heap.size) : FrR w lo' hi' v rs := by
  obtain ⟨h, hg, hs⟩ := h
  refine ⟨⟨h.1, ?_⟩, fun g e => Nat.lt_of_lt_of_le (hg g e) h2, h3⟩
  rcases h.2 with h | ⟨g, cap, cur, rfl, hb, r⟩
  · exact .inl h
  · exact .inr ⟨g, cap, cur, rfl, by omega, r⟩
theorem FrR.nil (w : World) {lo hi : Nat} (h : hi ≤ w.heap.size) : FrR w lo hi (.slice none 0 0) [] :=
  ⟨World.ownsRow_nil _ _ _ _, fun g hg => by simp [Value.ownBlock] at hg, h⟩
/-- A result that is there: where its cells lie, that they may be written, and what holds behind four stores. -/
theorem FrR.at_ {w : World} {lo hi n c : Nat} {A : Option Addr} {rs : List Res} (h : FrR w lo hi (.slice A n c) rs) {k : Nat} (hk : k < rs.length) :
    ∃ g r, A = some ⟨g, 0, none⟩ ∧ lo ≤ g ∧ g < hi ∧ rs[k]? = some r ∧
      (w.cell? ⟨g, k * 4, none⟩ = some (.int .i64 r.h) ∧ w.cell? ⟨g, k * 4 + 1, none⟩ = some (.int .i64 r.a) ∧ w.cell? ⟨g, k * 4 + 2, none⟩ = some (.int .i64 r.g) ∧ w.cell? ⟨g, k * 4 + 3, none⟩ = some (.int .i64 r.t)) ∧
      (∀ j, w.frozen? ⟨g, j, none⟩ = false) ∧
      ∀ x y z u, FrR ((((w.setCell ⟨g, k * 4, none⟩ (.int .i64 x)).setCell ⟨g, k * 4 + 1, none⟩ (.int .i64 y)).setCell ⟨g, k * 4 + 2, none⟩ (.int .i64 z)).setCell ⟨g, k * 4 + 3, none⟩ (.int .i64 u)) lo hi (.slice A n c) (rs.set k ⟨x, y, z, u⟩) ∧
        Keep lo hi w ((((w.setCell ⟨g, k * 4, none⟩ (.int .i64 x)).setCell ⟨g, k * 4 + 1, none⟩ (.int .i64 y)).setCell ⟨g, k * 4 + 2, none⟩ (.int .i64 z)).setCell ⟨g, k * 4 + 3, none⟩ (.int .i64 u)) := by
  obtain ⟨A', c', he, _⟩ := h.form
  injection he with _ hn _
  subst hn
  obtain ⟨h1, hg, hs⟩ := h
  have h1' := h1
  have hl := flat_length rs
  rcases h1.2 with ⟨he, hn⟩ | ⟨g, cap, cur, he, hb, hh, r⟩
  · omega
  · injection he with e1 e2 e3
    subst e1; subst e3
    have hgh := hg g rfl
    have hx : rs[k]? = some rs[k] := List.getElem?_eq_getElem hk
    obtain ⟨f1, f2, f3, f4⟩ := flat_get hx
    refine ⟨g, rs[k], rfl, hb, hgh, hx, ⟨?_, ?_, ?_, ?_⟩, fun j => h1'.frozenAt j, fun x y z u => ⟨⟨?_, fun g' hg' => hg g' hg', by simpa [World.setCell] using hs⟩, ((((Keep.refl _ _ _).setCell hb hgh _).setCell hb hgh _).setCell hb hgh _).setCell hb hgh _⟩⟩
    · rw [h1'.cellAt _ (by omega)]; exact ints_get f1
    · rw [h1'.cellAt _ (by omega)]; exact ints_get f2
    · rw [h1'.cellAt _ (by omega)]; exact ints_get f3
    · rw [h1'.cellAt _ (by omega)]; exact ints_get f4
    · have s1 := (((((h1'.stored (k * 4) (.int .i64 x)).1.stored (k * 4 + 1) (.int .i64 y)).1.stored (k * 4 + 2) (.int .i64 z)).1).stored (k * 4 + 3) (.int .i64 u)).1
      rw [ints_set, ints_set, ints_set, ints_set, flat_set hk] at s1
      rw [List.length_set]; exact s1

theorem infoR : (Tryd.prog.info? 52).map (fun i => (i.zero, i.size, i.bytes)) = some (some (.agg #[.int .i64 0, .int .i64 0, .int .i64 0, .int .i64 0]), 4, 32) := by kernel_rfl
theorem made4 (n : Nat) : (madeCells #[Value.int .i64 0, .int .i64 0, .int .i64 0, .int .i64 0] (n * 4)).toList = ints (List.replicate (n * 4) 0) := by
  apply List.ext_getElem?
  intro j
  by_cases hj : j < n * 4
  · have hm : j % 4 < 4 := Nat.mod_lt _ (by omega)
    simp only [madeCells, ints]
    rw [List.getElem?_map, List.getElem?_replicate, if_pos hj]
    simp [hj]
    have : j % 4 = 0 ∨ j % 4 = 1 ∨ j % 4 = 2 ∨ j % 4 = 3 := by omega
    rcases this with h | h | h | h <;> simp [h]
  · rw [List.getElem?_eq_none (by simp [madeCells]; omega), List.getElem?_eq_none (by simp [ints]; omega)]
theorem makeR {ops : Array Oper} {rest : List Oper} {o : Oper} {a : Act} {Q : Exit → Act → World → Prop} (hgd : o.guard = none) (l c : Operand)
    (ho : o.op = Op.makeSlice 28 l c) (w : World) (n : Nat) (hl : a.eval l = .int .i64 n) (hc : a.eval c = .int .i64 n) (hn : n ≤ 1048576)
    (h : ∀ w', FrR w' w.heap.size w'.heap.size (.slice (some ⟨w.heap.size, 0, none⟩) n n) (List.replicate n Res.zero) → Below w.heap.size w w' → w'.heap.size = w.heap.size + 1 → wpList Tryd.prog ops Q rest (a.put o.dst (.slice (some ⟨w.heap.size, 0, none⟩) n n)) w') :
    wpList Tryd.prog ops Q (o :: rest) a w := by
  obtain ⟨i0, hi, hz0, hz1, hz2⟩ := info_parts infoR
  refine wpList_plain hgd fun K hK' => ?_
  have hr := run_make (P := Tryd.prog) w 28 52 i0 _ Tryd.underlying28 hi hz0 .i64 .i64 n n (by omega) (Int.le_refl _) (by rw [hz2]; omega) (by omega)
  simp only [Int.toNat_natCast] at hr
  unfold Oper.wp
  simp [execOp, ho, hl, hc, hr, Result.andThen]
  refine hK' _ _ (h _ ?_ ((Below.refl _ w).alloc (Nat.le_refl _) _) (by simp))
  rw [hz1]
  have h1 := World.ownsRow_lit (base := w.heap.size) (e := 52) (size := 4) w (madeCells #[Value.int .i64 0, .int .i64 0, .int .i64 0, .int .i64 0] (n * 4)) n (Nat.le_refl _) (by unfold maxLen; omega) (size_madeCells _ _)
  rw [made4, ← flat_zeros] at h1
  exact FrR.of_own (by rw [List.length_replicate]; exact h1)

theorem toResult_any (h a g t : Int) (w : World) :
    Calls Tryd.prog 34 #[.agg #[.int .i64 h, .int .i64 a, .int .i64 g, .int .i64 t]] w fun e w' => e = .returned (.agg #[.int .i64 h, .int .i64 a, .int .i64 g, .int .i64 t]) ∧ Below w.heap.size w w' := by
  go_enter Tryd.func34, Tryd.ntmps34
  go_wp2
  exact bodyPost_ret (v := .agg #[.int .i64 h, .int .i64 a, .int .i64 g, .int .i64 t]) (by simp [results, Tryd.results34, go_sem]) rfl ⟨rfl, (((Below.refl _ w).alloc (Nat.le_refl _) _).alloc (by simp) _).alloc (by simp; omega) _⟩

theorem fill_set {α : Type} {xs : List α} {j : Nat} {x z : α} (h : xs[j]? = some x) : (xs.take j ++ List.replicate (xs.length - j) z).set j x = xs.take (j + 1) ++ List.replicate (xs.length - (j + 1)) z := by
  have hj : j < xs.length := by
    rcases Nat.lt_or_ge j xs.length with h' | h'
    · exact h'
    · rw [List.getElem?_eq_none h'] at h; cases h
  have hl : (xs.take j).length = j := by rw [List.length_take]; omega
  rw [List.set_append_right _ _ (by omega), hl, Nat.sub_self, show xs.length - j = (xs.length - (j + 1)) + 1 from by omega, List.replicate_succ, List.set_cons_zero, take_snoc h]
  simp
set_option maxHeartbeats 2000000 in
theorem toResultS_any (A : Option Addr) (c : Nat) (rs : List Res) (w : World) (hs : SlR w A rs) (hn : rs.length ≤ 1048576) :
    Calls Tryd.prog 20 #[.slice A rs.length c] w fun e w' => ∃ v', e = .returned v' ∧ FrR w' w.heap.size w'.heap.size v' rs ∧ Below w.heap.size w w' := by
  have HS := Lib.hid hs
  clear hs
  generalize hl : rs.length = n at *
  have HL := Lib.hid hl
  clear hl
  go_enter Tryd.func20, Tryd.ntmps20
  go_wp2_with (at_make; refine makeR rfl _ _ rfl w n rfl rfl (by omega) ?_; intro w1 hfr hb hsz)
  have HF := Lib.hid hfr
  have HB := Lib.hid hb
  clear hfr hb hsz
  go_loopw [4] (fun i wr => ∃ j : Nat, j ≤ n ∧ i = .int .i64 j ∧ Hid (FrR wr w.heap.size wr.heap.size (.slice (some ⟨w.heap.size, 0, none⟩) n n) (rs.take j ++ List.replicate (rs.length - j) Res.zero) ∧ Below w.heap.size w wr)) (fun i _ => n - (intOf i).toNat)
  case atStart => exact ⟨0, Nat.zero_le _, rfl, by rw [List.take_zero, List.nil_append, HL.out]; exact HF.out, HB.out⟩
  case round =>
    obtain ⟨j, hj, rfl, HR⟩ := hrel
    clear HF HB
    by_cases hlt : j < n
    · obtain ⟨b, off, r, rfl, hr, c1, c2, c3, c4, _⟩ := (HS.out.below HR.out.2).at_ (k := j) (by rw [HL.out]; exact hlt)
      have HX := Lib.hid hr
      clear hr
      go_wp2_with (go_at_call 34; refine (toResult_any _ _ _ _ _).mono ?_; rintro e w2 ⟨rfl, hb2⟩; have F2 : Hid (FrR w2 w.heap.size wr.heap.size (.slice (some ⟨w.heap.size, 0, none⟩) n n) (rs.take j ++ List.replicate (rs.length - j) Res.zero) ∧ Below w.heap.size w w2) := ⟨HR.out.1.grow hb2, HR.out.2.trans (hb2.mono HR.out.2.size)⟩; obtain ⟨g, r0, hg, -, -, -, ⟨k1, k2, k3, k4⟩, hfz, hst⟩ := F2.out.1.at_ (k := j) (by rw [List.length_append, List.length_take, List.length_replicate, HL.out]; omega); obtain rfl : w.heap.size = g := congrArg Addr.block (Option.some.inj hg); have z1 := hfz (j * 4); have z2 := hfz (j * 4 + 1); have z3 := hfz (j * 4 + 2); have z4 := hfz (j * 4 + 3); have HST := Lib.hid (hst r.h r.a r.g r.t); clear hst hfz hg hb2)
      exact ⟨⟨j + 1, by omega, by go_num, by rw [← fill_set HX.out]; exact HST.out.1.wide (Nat.le_refl _) (by have := F2.out.1.2.2; have := HST.out.2.size; omega) (Nat.le_refl _), F2.out.2.trans (HST.out.2.below (Nat.le_refl _) F2.out.2.size)⟩, by simp [intOf]; omega⟩
    · obtain rfl : j = n := by omega
      have h := HR.out.1
      rw [HL.out, Nat.sub_self, List.take_of_length_le (by rw [HL.out]; exact Nat.le_refl _), List.replicate_zero, List.append_nil] at h
      have HF := Lib.hid h
      clear h
      go_wp2
      go_ret
      exact ⟨_, rfl, HF.out, HR.out.2⟩

theorem eqResult_same (h a g t : Int) (w : World) :
    Calls Tryd.prog 46 #[.agg #[.int .i64 h, .int .i64 a, .int .i64 g, .int .i64 t], .agg #[.int .i64 h, .int .i64 a, .int .i64 g, .int .i64 t]] w fun e w' => e = .returned (.bool true) ∧ Below w.heap.size w w' := by
  go_enter Tryd.func46, Tryd.ntmps46
  go_wp2
  go_ret
  exact ⟨rfl, ((Below.refl _ w).alloc (Nat.le_refl _) _).alloc (by simp) _⟩

set_option maxRecDepth 100000 in
set_option maxHeartbeats 1000000 in
theorem eqResultS_same (A B : Option Addr) (c d : Nat) (rs : List Res) (w : World) (hx : SlR w A rs) (hy : SlR w B rs) (hn : rs.length ≤ 1048576) :
    Calls Tryd.prog 27 #[.slice A rs.length c, .slice B rs.length d] w fun e w' => e = .returned (.bool true) ∧ Below w.heap.size w w' := by
  have HS := Lib.hid (And.intro hx hy)
  clear hx hy
  generalize hl : rs.length = n at *
  have HL := Lib.hid hl
  clear hl
  go_enter Tryd.func27, Tryd.ntmps27
  go_wp2
  go_loopw [5] (fun i wr => ∃ j : Nat, j ≤ n ∧ i = .int .i64 j ∧ Hid (Below w.heap.size w wr)) (fun i _ => n - (intOf i).toNat)
  case atStart => exact ⟨0, Nat.zero_le _, rfl, Below.refl _ _⟩
  case round =>
    obtain ⟨j, hj, rfl, HR⟩ := hrel
    by_cases hlt : j < n
    · obtain ⟨b, off, r, rfl, hr, c1, c2, c3, c4, _⟩ := (HS.out.1.below HR.out).at_ (k := j) (by rw [HL.out]; exact hlt)
      obtain ⟨b', off', r', rfl, hr', d1, d2, d3, d4, _⟩ := (HS.out.2.below HR.out).at_ (k := j) (by rw [HL.out]; exact hlt)
      obtain rfl : r = r' := by rw [hr] at hr'; injection hr'
      clear hr hr'
      go_wp2
      refine wp_region_still_tail 8 (by kernel_rfl) (by kernel_rfl) ?_
      simp only [List.take_succ_cons, List.take_zero, List.drop_succ_cons, List.drop_zero]
      repeat still_step
      refine wpStill_nil ?_
      change wpList _ _ _ _ _ wr.drew
      have B2 : Hid (Below w.heap.size w wr.drew) := below_drewN HR.out 1
      clear c1 c2 c3 c4 d1 d2 d3 d4 HR
      generalize wr.drew = w2 at *
      go_wp2_with (go_at_call 46; refine (eqResult_same _ _ _ _ _).mono ?_; rintro e w3 ⟨rfl, hb3⟩; have B3 : Hid (Below w.heap.size w w3) := B2.out.trans (hb3.mono B2.out.size); clear hb3)
      go_roundw
      all_goals first | exact ⟨j + 1, by omega, by go_num, B3.out⟩ | (simp [intOf]; try omega)
    · obtain rfl : j = n := by omega
      go_wp2
      go_ret
      exact ⟨rfl, HR.out⟩

def seqR (k : Int) (n : Nat) : List Res := (List.range n).map fun (i : Nat) => ⟨k + 4 * (i : Int), k + 4 * (i : Int) + 1, k + 4 * (i : Int) + 1 + 1, k + 4 * (i : Int) + 1 + 1 + 1⟩
theorem seqR_length (k : Int) (n : Nat) : (seqR k n).length = n := by simp [seqR]
theorem seqR_get {k : Int} {n j : Nat} (h : j < n) : (seqR k n)[j]? = some ⟨k + 4 * (j : Int), k + 4 * (j : Int) + 1, k + 4 * (j : Int) + 1 + 1, k + 4 * (j : Int) + 1 + 1 + 1⟩ := by simp [seqR, h]
theorem join_set {α : Type} {xs ys : List α} {j : Nat} {x : α} (hl : xs.length = ys.length) (h : xs[j]? = some x) : (xs.take j ++ ys.drop j).set j x = xs.take (j + 1) ++ ys.drop (j + 1) := by
  have hj : j < xs.length := by
    rcases Nat.lt_or_ge j xs.length with h' | h'
    · exact h'
    · rw [List.getElem?_eq_none h'] at h; cases h
  have hlt : (xs.take j).length = j := by rw [List.length_take]; omega
  rw [List.set_append_right _ _ (by omega), hlt, Nat.sub_self, List.drop_eq_getElem_cons (by omega), List.set_cons_zero, take_snoc h]
  simp
set_option maxHeartbeats 2000000 in
theorem markResultS_any (A : Option Addr) (c lo hi : Nat) (rs : List Res) (k : Int) (w : World) (hs : FrR w lo hi (.slice A rs.length c) rs) (h1 : rs.length ≤ 1048576) (h2 : 0 ≤ k) (h3 : k ≤ 1099511627776) :
    Calls Tryd.prog 28 #[.slice A rs.length c, .int .i64 k] w fun e w' => e = .returned (.int .i64 (k + (4 * rs.length : Nat))) ∧ FrR w' lo hi (.slice A rs.length c) (seqR k rs.length) ∧ Keep lo hi w w' := by
  have HS := Lib.hid hs
  clear hs
  generalize hl : rs.length = n at *
  have HL := Lib.hid hl
  clear hl
  go_enter Tryd.func28, Tryd.ntmps28
  go_wp2
  go_loopw [1, 5] (fun q i wr => ∃ j : Nat, j ≤ n ∧ i = .int .i64 j ∧ q = .int .i64 (k + 4 * j) ∧ Hid (FrR wr lo hi (.slice A n c) ((seqR k n).take j ++ rs.drop j) ∧ Keep lo hi w wr)) (fun _ i _ => n - (intOf i).toNat)
  case atStart => exact ⟨0, Nat.zero_le _, rfl, by simp, by rw [List.take_zero, List.nil_append, List.drop_zero]; exact HS.out, Keep.refl _ _ _⟩
  case round =>
    obtain ⟨j, hj, rfl, rfl, HR⟩ := hrel
    clear HS
    by_cases hlt : j < n
    · obtain ⟨g, r, rfl, -, -, -, ⟨c1, c2, c3, c4⟩, hfz, hst⟩ := HR.out.1.at_ (k := j) (by rw [List.length_append, List.length_take, List.length_drop, seqR_length, HL.out]; omega)
      have z1 := hfz (j * 4)
      have z2 := hfz (j * 4 + 1)
      have z3 := hfz (j * 4 + 2)
      have z4 := hfz (j * 4 + 3)
      have hst2 := hst (k + 4 * (j : Int)) (k + 4 * (j : Int) + 1) (k + 4 * (j : Int) + 1 + 1) (k + 4 * (j : Int) + 1 + 1 + 1)
      rw [join_set (by rw [seqR_length, HL.out]) (seqR_get hlt)] at hst2
      have HST := Lib.hid hst2
      clear hst hst2 hfz
      go_wp2
      exact ⟨⟨j + 1, by omega, by go_num, by go_num, HST.out.1, HR.out.2.trans HST.out.2⟩, by simp [intOf]; omega⟩
    · obtain rfl : j = n := by omega
      have h := HR.out.1
      rw [List.take_of_length_le (by rw [seqR_length]; exact Nat.le_refl _), List.drop_of_length_le (by rw [HL.out]; exact Nat.le_refl _), List.append_nil] at h
      have HF := Lib.hid h
      clear h
      go_wp2
      go_ret
      exact ⟨ret_int (by push_cast; omega), HF.out, HR.out.2⟩

structure LeagueV where
  clubs : Int
  results : List Res
/-- The value v reads as the league x. -/
def InL (w : World) (v : Value) (x : LeagueV) : Prop :=
  ∃ A c, v = .agg #[.int .i64 x.clubs, .slice A x.results.length c] ∧ x.results.length ≤ c ∧ c ≤ maxLen ∧ SlR w A x.results ∧ (Lit.int .i64 x.clubs).wf = true
theorem InL.below {w w' : World} {v : Value} {x : LeagueV} (h : InL w v x) (hb : Below w.heap.size w w') : InL w' v x := by
  obtain ⟨A, c, rfl, h1, h2, h3, h4⟩ := h
  exact ⟨A, c, rfl, h1, h2, h3.below hb, h4⟩
def OwL (w : World) (lo hi : Nat) (v : Value) (x : LeagueV) : Prop := ∃ u, v = .agg #[.int .i64 x.clubs, u] ∧ FrR w lo hi u x.results ∧ (Lit.int .i64 x.clubs).wf = true
theorem OwL.in_ {w : World} {lo hi : Nat} {v : Value} {x : LeagueV} (h : OwL w lo hi v x) : InL w v x := by
  obtain ⟨u, rfl, h, hw⟩ := h
  obtain ⟨A, c, rfl, h1, h2⟩ := h.form
  exact ⟨A, c, rfl, h1, h2, h.sl, hw⟩
theorem OwL.keep {w w' : World} {lo hi l2 h2 : Nat} {v : Value} {x : LeagueV} (h : OwL w lo hi v x) (hk : Keep l2 h2 w w') (hd : hi ≤ l2 ∨ h2 ≤ lo) : OwL w' lo hi v x := by
  obtain ⟨u, rfl, h, hw⟩ := h
  exact ⟨u, rfl, h.keep hk hd, hw⟩
theorem OwL.grow {w w' : World} {lo hi : Nat} {v : Value} {x : LeagueV} (h : OwL w lo hi v x) (hb : Below w.heap.size w w') : OwL w' lo hi v x := by
  obtain ⟨u, rfl, h, hw⟩ := h
  exact ⟨u, rfl, h.grow hb, hw⟩
def markedL (k : Int) (x : LeagueV) : LeagueV := ⟨x.clubs, seqR k x.results.length⟩

def szQ (t : Nat) (left : Int) : Int := if (t : Int) ≤ left then left - t else -1
theorem szQ_pos {t : Nat} {left : Int} (h : (t : Int) ≤ left) : szQ t left = left - t := if_pos h
theorem szQ_neg {t : Nat} {left : Int} (h : ¬ (t : Int) ≤ left) : szQ t left = -1 := if_neg h
theorem szResultS_any (A : Option Addr) (n c : Nat) (left : Int) (w : World) (hn : n ≤ 9223372036854775807) (h0 : 0 ≤ left) (h1 : left ≤ 1048576) :
    Calls Tryd.prog 13 #[.slice A n c, .int .i64 left] w fun e w' => e = .returned (.int .i64 (szQ n left)) ∧ w = w' := by
  by_cases hle : (n : Int) ≤ left
  · rw [szQ_pos hle]
    go_enter Tryd.func13, Tryd.ntmps13
    go_wp2
    go_ret
    exact ⟨rfl, rfl⟩
  · rw [szQ_neg hle]
    go_enter Tryd.func13, Tryd.ntmps13
    go_wp2
    go_ret
    exact ⟨rfl, rfl⟩
theorem szLeague_any (v : Value) (x : LeagueV) (left : Int) (w : World) (hs : InL w v x) (h0 : 0 ≤ left) (h1 : left ≤ 1048576) :
    Calls Tryd.prog 4 #[v, .int .i64 left] w fun e w' => e = .returned (.int .i64 (szQ x.results.length left)) ∧ Below w.heap.size w w' := by
  obtain ⟨A, c, rfl, hc, hm, _⟩ := hs
  unfold maxLen at hm
  by_cases hle : (x.results.length : Int) ≤ left
  · go_enter Tryd.func4, Tryd.ntmps4
    go_wp2_with (go_at_call 13; refine (szResultS_any _ _ _ _ _ (by omega) h0 h1).mono ?_; rintro e w' ⟨rfl, rfl⟩; rw [szQ_pos hle])
    go_ret
    exact ⟨by rw [szQ_pos hle]; rfl, (Below.refl _ w).alloc (Nat.le_refl _) _⟩
  · go_enter Tryd.func4, Tryd.ntmps4
    go_wp2_with (go_at_call 13; refine (szResultS_any _ _ _ _ _ (by omega) h0 h1).mono ?_; rintro e w' ⟨rfl, rfl⟩; rw [szQ_neg hle])
    go_ret
    exact ⟨by rw [szQ_neg (by omega)]; rfl, (Below.refl _ w).alloc (Nat.le_refl _) _⟩

theorem push3_1 (h : Array Obj) (a b c : Obj) : (((h.push a).push b).push c)[h.size + 1]? = some b := by
  simp only [Array.getElem?_push, Array.size_push]
  rw [if_neg (by omega)]; simp
theorem push3_2 (h : Array Obj) (a b c : Obj) : (((h.push a).push b).push c)[h.size + 1 + 1]? = some c := by
  simp only [Array.getElem?_push, Array.size_push, if_true]
set_option maxRecDepth 100000 in
theorem toLeague_std (v : Value) (x : LeagueV) (w : World) (hs : InL w v x) (hn : x.results.length ≤ 1048576) :
    Calls Tryd.prog 6 #[v] w fun e w' => ∃ v', e = .returned v' ∧ OwL w' w.heap.size w'.heap.size v' x ∧ Below w.heap.size w w' := by
  obtain ⟨A, c, rfl, hc, hm, hs, hw⟩ := hs
  have HS := Lib.hid hs
  clear hs
  go_enter Tryd.func6, Tryd.ntmps6
  go_wp2_with (go_at_call 20; refine (toResultS_any A c x.results _ (SlI.alloc (SlI.alloc (SlI.alloc HS.out _) _) _) hn).mono ?_; rintro e w1 ⟨v1, rfl, hf, hb⟩; obtain ⟨A1, c1, rfl, hc1, hm1⟩ := hf.form; have b1 : w1.heap[w.heap.size + 1]? = some (.cells #[.int .i64 0, .slice none 0 0] 30 (0, 0)) := ((hb.block (w.heap.size + 1) (by simp)).trans (push3_1 _ _ _ _)); have b2 : w1.heap[w.heap.size + 1 + 1]? = some (.cells #[.int .i64 x.clubs, .slice none 0 0] 30 (0, 0)) := ((hb.block (w.heap.size + 1 + 1) (by simp)).trans (push3_2 _ _ _ _)); have q1 : w1.cell? ⟨w.heap.size + 1, 0, none⟩ = some (.int .i64 0) := (by simp [World.cell?, b1]); have q2 : w1.cell? ⟨w.heap.size + 1, 1, none⟩ = some (.slice none 0 0) := (by simp [World.cell?, b1]); have q3 : w1.cell? ⟨w.heap.size + 1 + 1, 0, none⟩ = some (.int .i64 x.clubs) := (by simp [World.cell?, b2]); have q4 : w1.cell? ⟨w.heap.size + 1 + 1, 1, none⟩ = some (.slice none 0 0) := (by simp [World.cell?, b2]); have f1 : w1.frozen? ⟨w.heap.size + 1, 0, none⟩ = false := (by simp [World.frozen?, b1]); have f2 : w1.frozen? ⟨w.heap.size + 1, 1, none⟩ = false := (by simp [World.frozen?, b1]); have f4 : w1.frozen? ⟨w.heap.size + 1 + 1, 1, none⟩ = false := (by simp [World.frozen?, b2]); have HF := Lib.hid (And.intro hf hb); clear hf hb b1 b2)
  have KP : Hid (Keep w.heap.size (w.heap.size + 3) w1 (((w1.setCell ⟨w.heap.size + 1 + 1, 1, none⟩ (.slice A1 x.results.length c1)).setCell ⟨w.heap.size + 1, 0, none⟩ (.int .i64 x.clubs)).setCell ⟨w.heap.size + 1, 1, none⟩ (.slice A1 x.results.length c1))) :=
    (((Keep.refl _ _ _).setCell (by show _ ≤ w.heap.size + 1 + 1; omega) (by show w.heap.size + 1 + 1 < _; omega) _).setCell (by show _ ≤ w.heap.size + 1; omega) (by show w.heap.size + 1 < _; omega) _).setCell (by show _ ≤ w.heap.size + 1; omega) (by show w.heap.size + 1 < _; omega) _
  have B1 : Below w.heap.size w w1 := ((((Below.refl _ w).alloc (Nat.le_refl _) _).alloc (by simp) _).alloc (by simp; omega) _).trans (HF.out.2.mono (by simp; omega))
  refine bodyPost_ret (v := .agg #[.int .i64 x.clubs, .slice A1 x.results.length c1]) (by simp [results, Tryd.results6, go_sem, q1, q2]) rfl ⟨_, rfl, ⟨_, rfl, (HF.out.1.keep KP.out (.inr (by simp))).wide (by simp; omega) KP.out.size (Nat.le_refl _), hw⟩, B1.trans (KP.out.below (Nat.le_refl _) B1.size)⟩

set_option maxRecDepth 100000 in
theorem eqLeague_std (v u : Value) (x : LeagueV) (w : World) (hv : InL w v x) (hu : InL w u x) (hn : x.results.length ≤ 1048576) :
    Calls Tryd.prog 9 #[v, u] w fun e w' => e = .returned (.bool true) ∧ Below w.heap.size w w' := by
  obtain ⟨A, c, rfl, _, _, hs, _⟩ := hv
  obtain ⟨B, d, rfl, _, _, hs2, _⟩ := hu
  have HS := Lib.hid (And.intro hs hs2)
  clear hs hs2
  go_enter Tryd.func9, Tryd.ntmps9
  go_wp2_with (go_at_call 27; refine (eqResultS_same A B c d x.results _ (SlI.alloc (SlI.alloc HS.out.1 _) _) (SlI.alloc (SlI.alloc HS.out.2 _) _) hn).mono ?_; rintro e w1 ⟨rfl, hb⟩; have HB : Hid (Below w.heap.size w w1) := (((Below.refl _ w).alloc (Nat.le_refl _) _).alloc (by simp) _).trans (hb.mono (by simp; omega)); clear hb)
  go_ret
  exact ⟨rfl, HB.out⟩

set_option maxRecDepth 100000 in
theorem markLeague_std (v : Value) (lo hi : Nat) (x : LeagueV) (k : Int) (w : World) (hs : OwL w lo hi v x) (h1 : x.results.length ≤ 1048576) (h2 : 0 ≤ k) (h3 : k ≤ 1099511627776) :
    Calls Tryd.prog 10 #[v, .int .i64 k] w fun e w' => e = .returned (.int .i64 (k + (4 * x.results.length : Nat))) ∧ OwL w' lo hi v (markedL k x) ∧ Keep lo hi w w' := by
  obtain ⟨u, rfl, hf, hw⟩ := hs
  obtain ⟨A, c, rfl, _⟩ := hf.form
  have HF := Lib.hid hf
  clear hf
  go_enter Tryd.func10, Tryd.ntmps10
  go_wp2_with (go_at_call 28; refine (markResultS_any A c lo hi x.results k _ (HF.out.grow ((Below.refl _ w).alloc (Nat.le_refl _) _)) h1 h2 h3).mono ?_; rintro e w1 ⟨rfl, hf2, hk2⟩; have H2 : Hid (FrR w1 lo hi (.slice A x.results.length c) (seqR k x.results.length) ∧ Keep lo hi w w1) := ⟨hf2, ((Keep.refl lo hi w).alloc _).trans hk2⟩; clear hf2 hk2)
  go_ret
  refine ⟨rfl, ⟨_, rfl, ?_, hw⟩, H2.out.2⟩
  have h := H2.out.1
  show FrR _ _ _ (.slice A x.results.length c) (seqR k x.results.length)
  exact h
end Go.Proofs.YtpjbgcflepebgaaDoor
