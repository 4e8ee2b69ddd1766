/- Corrections of a league: the reference's contracts. -/
import Derived.Test.YthfllppknngfpaaCr
import Derived.Test.YthfllppknngfpaaBox
import Derived.Deep.RegionLaw
import Derived.Deep.RegionHeld3
import Derived.Deep.Cut
import Derived.Deep.CutRange
namespace Go.Proofs.Ythfllppknngfpaa
open Go.ChangeShapes Go.WideShapes Go.ChangeAt Go.RowKit

theorem OwL.drew {w : World} {lo hi : Nat} {v : Value} {x : LeagueV} (h : OwL w lo hi v x) : OwL w.drew lo hi v x := h
theorem OwL.wide {w : World} {lo hi lo' hi' : Nat} {v : Value} {x : LeagueV} (h : OwL w lo hi v x) (h1 : lo' ≤ lo) (h2 : hi ≤ hi') (h3 : hi' ≤ w.heap.size) : OwL w lo' hi' v x := by
  obtain ⟨u, rfl, hf, hw⟩ := h
  exact ⟨u, rfl, hf.wide h1 h2 h3, hw⟩
theorem OwL.form {w : World} {lo hi : Nat} {v : Value} {x : LeagueV} (h : OwL w lo hi v x) : ∃ A c, v = .agg #[.int .i64 x.clubs, .slice A x.results.length c] := by
  obtain ⟨u, rfl, hf, _⟩ := h
  obtain ⟨A, c, rfl, _⟩ := hf.form
  exact ⟨A, c, rfl⟩

set_option maxRecDepth 100000 in
/-- 'append(out, src...)' at a row of results of the call's own, as a step of a region that draws. -/
theorem stepAppR {ops : Array Oper} {o : Oper} {a : Act} {w : World} {K : Act → World → Prop} {Q : Exit → Act → World → Prop} {E : Prop} (hgd : o.guard = none) (s y : Operand)
    (ho : o.op = .call { callee := .builtin .append, args := #[s, y], argTypes := #[26, 26] })
    (base : Nat) (v : Value) (n : Nat) (xs : List Res) (hs : a.eval s = v) (hown : w.ownsRow base 48 4 v n (ints (flat xs))) (ad : Addr) (m c : Nat) (ys : List Res) (hm : ys.length = m)
    (hx : a.eval y = .slice (some ad) m c) (hys : SlR w (some ad) ys) (hl : n + m ≤ 1048576) (hbase : base ≤ w.heap.size)
    (h : ∀ v' w', w'.ownsRow base 48 4 v' (n + m) (ints (flat (xs ++ ys))) → (∀ B, B ≤ base → B ≤ w.heap.size → Below B w w') → w.grownBy w' v.ownBlock → K (a.put o.dst v') w') :
    if Region.wanted o (yielded ops a.tmps) = true then Oper.wp Try.prog o a w K Q else E := by
  obtain ⟨i0, hi, hz0, hz1, hz2⟩ := info_parts infoR
  have hw : Region.wanted o (yielded ops a.tmps) = true := by simp [Region.wanted, hgd]
  rw [if_pos hw]
  obtain ⟨v', w', hrun, r1, r2, _⟩ := run_append_own (P := Try.prog) w base 26 o.type 48 i0 _ 4 32 Try.underlying26 hi hz0 hz1 hz2 rfl (by decide) v n (ints (flat xs)) hown ad m c (ints (flat ys)) (by simp [ints, flat_length, hm]) (by
    intro j u hj
    rcases hys with hy | ⟨b, off, hA, hc⟩
    · rw [hy] at hj; simp [ints] at hj
    · injection hA with hA
      subst hA
      simp only [ints, List.getElem?_map, Option.map_eq_some_iff] at hj
      obtain ⟨y, hy, rfl⟩ := hj
      rw [Go.WideShapes.add_plain]; exact hc j y hy) (by
    intro u hu
    simp only [ints, List.mem_map] at hu
    obtain ⟨y, _, rfl⟩ := hu; rfl) (by unfold maxLen; omega) (by omega) hbase
  unfold Oper.wp
  simp [execOp, ho, resolve, invoke, builtin, hs, hx, hrun, Result.andThen]
  refine h v' w' (by rw [flat_append, ints_append]; exact r1) (fun B h4 h5 => ?_) r2
  refine (Below.refl B w).grown r2 h5 (fun k hk => ?_)
  have := (hown.lt k hk).1; omega

theorem ownsE (W : World) (b base : Nat) (hb : b = W.heap.size) (h : base ≤ b) : (W.alloc (.cells #[] 48)).ownsRow base 48 4 (.slice (some ⟨b, 0, none⟩) 0 0) 0 (ints (flat [])) := by
  subst hb; exact World.ownsRow_made W #[] 0 h (by unfold maxLen; omega) rfl
theorem ownNe {w : World} {base g n c p : Nat} {xs : List Value} {a : Array Value} (h : w.ownsRow base 48 4 (.slice (some ⟨g, 0, none⟩) n c) n xs) (hp : w.heap[p]? = some (.cells a 28 (0, 0))) : p ≠ g := by
  rintro rfl
  rcases h.2 with ⟨h, _⟩ | ⟨g', _, cur, h, _, h2, _⟩
  · cases h
  · injection h with h _ _
    injection h with h
    injection h with h _ _
    subst h
    rw [hp] at h2
    injection h2 with h2
    injection h2 with _ h2 _
    exact absurd h2 (by decide)
theorem below_drewR {B : Nat} {a w : World} (h : Below B a w) : Below B a w.drew := ⟨h.os, h.tape, h.output, h.size, h.block⟩
/-- What the region of l27Set has at hand: the box of the argument, the box of the result. -/
structure SetAt (w W : World) (cl : Int) (ad : Addr) (n c : Nat) : Prop where
  y0 : W.cell? ⟨w.heap.size, 0, none⟩ = some (.int .i64 cl)
  y1 : W.cell? ⟨w.heap.size, 1, none⟩ = some (.slice (some ad) n c)
  r0 : W.cell? ⟨w.heap.size + 1, 0, none⟩ = some (.int .i64 0)
  r1 : W.cell? ⟨w.heap.size + 1, 1, none⟩ = some (.slice none 0 0)
  f0 : W.frozen? ⟨w.heap.size + 1, 0, none⟩ = false
  f1 : W.frozen? ⟨w.heap.size + 1, 1, none⟩ = false
  sz : w.heap.size + 2 ≤ W.heap.size
  be : Below w.heap.size w W
theorem SetAt.below {w W W' : World} {cl : Int} {ad : Addr} {n c : Nat} (h : SetAt w W cl ad n c) (hb : Below (w.heap.size + 2) W W') : SetAt w W' cl ad n c :=
  ⟨(hb.cell (p := ⟨w.heap.size, 0, none⟩) (by show w.heap.size < _; omega)).trans h.y0, (hb.cell (p := ⟨w.heap.size, 1, none⟩) (by show w.heap.size < _; omega)).trans h.y1,
   (hb.cell (p := ⟨w.heap.size + 1, 0, none⟩) (by show w.heap.size + 1 < _; omega)).trans h.r0, (hb.cell (p := ⟨w.heap.size + 1, 1, none⟩) (by show w.heap.size + 1 < _; omega)).trans h.r1,
   (hb.frozen (p := ⟨w.heap.size + 1, 0, none⟩) (by show w.heap.size + 1 < _; omega)).trans h.f0, (hb.frozen (p := ⟨w.heap.size + 1, 1, none⟩) (by show w.heap.size + 1 < _; omega)).trans h.f1,
   Nat.le_trans h.sz hb.size, h.be.trans (hb.mono (by omega))⟩
theorem SetAt.drew {w W : World} {cl : Int} {ad : Addr} {n c : Nat} (h : SetAt w W cl ad n c) : SetAt w W.drew cl ad n c := ⟨h.y0, h.y1, h.r0, h.r1, h.f0, h.f1, h.sz, below_drewR h.be⟩
theorem setAt1 (w : World) (cl : Int) (ad : Addr) (n c : Nat) : SetAt w (((w.alloc (.cells #[.int .i64 cl, .slice (some ad) n c] 28)).alloc (.cells #[.int .i64 0, .slice none 0 0] 28)).alloc (.cells #[] 48)).drew cl ad n c :=
  SetAt.drew ⟨by simp [go_sem], by simp [go_sem], by simp [go_sem], by simp [go_sem], by simp [go_sem], by simp [go_sem], by simp <;> omega, ((((Below.refl _ w).alloc (Nat.le_refl _) _).alloc (by simp <;> omega) _).alloc (by simp <;> omega) _)⟩
theorem setAt2 (w : World) (cl : Int) (ad : Addr) (n c : Nat) : SetAt w ((((w.alloc (.cells #[.int .i64 cl, .slice (some ad) n c] 28)).alloc (.cells #[.int .i64 0, .slice none 0 0] 28)).alloc (.cells #[] 48)).alloc (.cells #[.int .i64 0, .slice none 0 0] 28)).drew cl ad n c :=
  SetAt.drew ⟨by simp [go_sem], by simp [go_sem], by simp [go_sem], by simp [go_sem], by simp [go_sem], by simp [go_sem], by simp <;> omega, (((((Below.refl _ w).alloc (Nat.le_refl _) _).alloc (by simp <;> omega) _).alloc (by simp <;> omega) _).alloc (by simp <;> omega) _)⟩
theorem setAt3 (w : World) (cl : Int) (ad : Addr) (n c : Nat) : SetAt w ((((w.alloc (.cells #[.int .i64 cl, .slice (some ad) n c] 28)).alloc (.cells #[.int .i64 0, .slice none 0 0] 28)).alloc (.cells #[.int .i64 0, .slice none 0 0] 28)).alloc (.cells #[] 48)).drew cl ad n c :=
  SetAt.drew ⟨by simp [go_sem], by simp [go_sem], by simp [go_sem], by simp [go_sem], by simp [go_sem], by simp [go_sem], by simp <;> omega, (((((Below.refl _ w).alloc (Nat.le_refl _) _).alloc (by simp <;> omega) _).alloc (by simp <;> omega) _).alloc (by simp <;> omega) _)⟩
theorem setOwn1 (w : World) (cl : Int) (ad : Addr) (n c : Nat) : World.ownsRow (((w.alloc (.cells #[.int .i64 cl, .slice (some ad) n c] 28)).alloc (.cells #[.int .i64 0, .slice none 0 0] 28)).alloc (.cells #[] 48)).drew (w.heap.size + 2) 48 4 (.slice (some ⟨w.heap.size + 1 + 1, 0, none⟩) 0 0) 0 (ints (flat [])) := ownsE ((w.alloc (.cells #[.int .i64 cl, .slice (some ad) n c] 28)).alloc (.cells #[.int .i64 0, .slice none 0 0] 28)) _ _ (by simp) (by simp)
theorem setOwn2 (w : World) (cl : Int) (ad : Addr) (n c : Nat) : World.ownsRow ((((w.alloc (.cells #[.int .i64 cl, .slice (some ad) n c] 28)).alloc (.cells #[.int .i64 0, .slice none 0 0] 28)).alloc (.cells #[] 48)).alloc (.cells #[.int .i64 0, .slice none 0 0] 28)).drew (w.heap.size + 2) 48 4 (.slice (some ⟨w.heap.size + 1 + 1, 0, none⟩) 0 0) 0 (ints (flat [])) := (ownsE ((w.alloc (.cells #[.int .i64 cl, .slice (some ad) n c] 28)).alloc (.cells #[.int .i64 0, .slice none 0 0] 28)) _ _ (by simp) (by simp)).alloc _
theorem setOwn3 (w : World) (cl : Int) (ad : Addr) (n c : Nat) : World.ownsRow ((((w.alloc (.cells #[.int .i64 cl, .slice (some ad) n c] 28)).alloc (.cells #[.int .i64 0, .slice none 0 0] 28)).alloc (.cells #[.int .i64 0, .slice none 0 0] 28)).alloc (.cells #[] 48)).drew (w.heap.size + 2) 48 4 (.slice (some ⟨w.heap.size + 1 + 1 + 1, 0, none⟩) 0 0) 0 (ints (flat [])) := ownsE (((w.alloc (.cells #[.int .i64 cl, .slice (some ad) n c] 28)).alloc (.cells #[.int .i64 0, .slice none 0 0] 28)).alloc (.cells #[.int .i64 0, .slice none 0 0] 28)) _ _ (by simp) (by simp <;> omega)
theorem setBox2 (w : World) (cl : Int) (ad : Addr) (n c : Nat) : (((((w.alloc (.cells #[.int .i64 cl, .slice (some ad) n c] 28)).alloc (.cells #[.int .i64 0, .slice none 0 0] 28)).alloc (.cells #[] 48)).alloc (.cells #[.int .i64 0, .slice none 0 0] 28)).drew).heap[w.heap.size + 1 + 1 + 1]? = some (.cells #[.int .i64 0, .slice none 0 0] 28 (0, 0)) ∧ w.heap.size + 1 + 1 + 1 < (((((w.alloc (.cells #[.int .i64 cl, .slice (some ad) n c] 28)).alloc (.cells #[.int .i64 0, .slice none 0 0] 28)).alloc (.cells #[] 48)).alloc (.cells #[.int .i64 0, .slice none 0 0] 28)).drew).heap.size := ⟨(by rw [show w.heap.size + 1 + 1 + 1 = (((w.alloc (.cells #[.int .i64 cl, .slice (some ad) n c] 28)).alloc (.cells #[.int .i64 0, .slice none 0 0] 28)).alloc (.cells #[] 48)).heap.size from by simp]; exact heap_alloc_new _ _), by simp <;> omega⟩
theorem setBox3 (w : World) (cl : Int) (ad : Addr) (n c : Nat) : (((((w.alloc (.cells #[.int .i64 cl, .slice (some ad) n c] 28)).alloc (.cells #[.int .i64 0, .slice none 0 0] 28)).alloc (.cells #[.int .i64 0, .slice none 0 0] 28)).alloc (.cells #[] 48)).drew).heap[w.heap.size + 1 + 1]? = some (.cells #[.int .i64 0, .slice none 0 0] 28 (0, 0)) ∧ w.heap.size + 1 + 1 < (((((w.alloc (.cells #[.int .i64 cl, .slice (some ad) n c] 28)).alloc (.cells #[.int .i64 0, .slice none 0 0] 28)).alloc (.cells #[.int .i64 0, .slice none 0 0] 28)).alloc (.cells #[] 48)).drew).heap.size := ⟨((((Below.refl (((w.alloc (.cells #[.int .i64 cl, .slice (some ad) n c] 28)).alloc (.cells #[.int .i64 0, .slice none 0 0] 28)).alloc (.cells #[.int .i64 0, .slice none 0 0] 28)).heap.size (((w.alloc (.cells #[.int .i64 cl, .slice (some ad) n c] 28)).alloc (.cells #[.int .i64 0, .slice none 0 0] 28)).alloc (.cells #[.int .i64 0, .slice none 0 0] 28))).alloc (Nat.le_refl _) (.cells #[] 48)).block _ (by simp)).trans (by rw [show w.heap.size + 1 + 1 = ((w.alloc (.cells #[.int .i64 cl, .slice (some ad) n c] 28)).alloc (.cells #[.int .i64 0, .slice none 0 0] 28)).heap.size from by simp]; exact heap_alloc_new _ _)), by simp <;> omega⟩
theorem setFin {w W w1 : World} {cl : Int} {ad : Addr} {n c n2 c2 : Nat} {A : Option Addr} {rs : List Res} (h : SetAt w W cl ad n c) (hown : w1.ownsRow (w.heap.size + 2) 48 4 (.slice A n2 c2) n2 (ints (flat rs))) (hl : rs.length = n2)
    (hb : ∀ B, B ≤ w.heap.size + 2 → B ≤ W.heap.size → Below B W w1) : SetAt w w1 cl ad n c ∧ FrR w1 (w.heap.size + 2) w1.heap.size (.slice A n2 c2) rs :=
  ⟨h.below (hb _ (Nat.le_refl _) h.sz), FrR.of_own (by rw [hl]; exact hown)⟩
theorem setFin2 {w W w1 : World} {n c p g : Nat} {xs : List Value} {b : Nat} (hown : w1.ownsRow (w.heap.size + 2) 48 4 (.slice (some ⟨g, 0, none⟩) n c) n xs) (hg : W.grownBy w1 (some b)) (hp : W.heap[p]? = some (.cells #[.int .i64 0, .slice none 0 0] 28 (0, 0)) ∧ p < W.heap.size) (hne : p ≠ b) :
    w1.cell? ⟨p, 0, none⟩ = some (.int .i64 0) ∧ w1.cell? ⟨p, 1, none⟩ = some (.slice none 0 0) ∧ w1.frozen? ⟨p, 0, none⟩ = false ∧ w1.frozen? ⟨p, 1, none⟩ = false ∧ p ≠ g ∧ p < w1.heap.size := by
  have h := (hg.block p hp.2 (by intro h; injection h with h; exact hne h)).trans hp.1
  exact ⟨by simp [World.cell?, h], by simp [World.cell?, h], by simp [World.frozen?, h], by simp [World.frozen?, h], ownNe hown h, Nat.lt_of_lt_of_le hp.2 hg.size⟩
theorem FrR.tight {w : World} {lo hi n c g : Nat} {rs : List Res} (h : FrR w lo hi (.slice (some ⟨g, 0, none⟩) n c) rs) : FrR w g (g + 1) (.slice (some ⟨g, 0, none⟩) n c) rs := by
  obtain ⟨⟨h1, h2⟩, h3, h4⟩ := h
  have h5 := h3 g rfl
  refine ⟨⟨h1, ?_⟩, fun k hk => by simp [Value.ownBlock] at hk; omega, by omega⟩
  rcases h2 with h2 | ⟨g', cap, cur, e, _, h6⟩
  · exact .inl h2
  · refine .inr ⟨g', cap, cur, e, ?_, h6⟩
    injection e with e _ _
    injection e with e
    injection e with e _ _
    omega
/-- What stands behind the region of l27Set. -/
def SetMid (w wx : World) (x : LeagueV) (ad : Addr) (c p g c2 : Nat) : Prop :=
  FrR wx (w.heap.size + 2) wx.heap.size (.slice (some ⟨g, 0, none⟩) x.results.length c2) x.results ∧ x.results.length ≤ c2 ∧ c2 ≤ maxLen ∧
    wx.cell? ⟨p, 0, none⟩ = some (.int .i64 x.clubs) ∧ wx.cell? ⟨p, 1, none⟩ = some (.slice (some ⟨g, 0, none⟩) x.results.length c2) ∧ SetAt w wx x.clubs ad x.results.length c
theorem setMid_new {w w1 : World} {x : LeagueV} {ad : Addr} {c g c2 : Nat} (h1 : FrR w1 (w.heap.size + 2) w1.heap.size (.slice (some ⟨g, 0, none⟩) x.results.length c2) x.results) (h2 : x.results.length ≤ c2) (h3 : c2 ≤ maxLen) (h4 : SetAt w w1 x.clubs ad x.results.length c) :
    SetMid w (w1.alloc (.cells #[.int .i64 x.clubs, .slice (some ⟨g, 0, none⟩) x.results.length c2] 28)) x ad c w1.heap.size g c2 :=
  ⟨(h1.grow ((Below.refl _ w1).alloc (Nat.le_refl _) _)).wide (Nat.le_refl _) (by simp) (Nat.le_refl _), h2, h3, by simp [go_sem], by simp [go_sem], h4.below ((Below.refl _ w1).alloc h4.sz _)⟩
theorem setMid_put {w w1 : World} {x : LeagueV} {ad : Addr} {c g c2 p : Nat} (h1 : FrR w1 (w.heap.size + 2) w1.heap.size (.slice (some ⟨g, 0, none⟩) x.results.length c2) x.results) (h2 : x.results.length ≤ c2) (h3 : c2 ≤ maxLen) (h4 : SetAt w w1 x.clubs ad x.results.length c)
    (hp : w.heap.size + 2 ≤ p) (_hlt : p < w1.heap.size) (hne : p ≠ g) (hlo : w.heap.size + 2 ≤ g) (p0 : w1.cell? ⟨p, 0, none⟩ = some (.int .i64 0)) (p1 : w1.cell? ⟨p, 1, none⟩ = some (.slice none 0 0)) :
    SetMid w ((w1.setCell ⟨p, 0, none⟩ (.int .i64 x.clubs)).setCell ⟨p, 1, none⟩ (.slice (some ⟨g, 0, none⟩) x.results.length c2)) x ad c p g c2 := by
  have kp : Keep p (p + 1) w1 ((w1.setCell ⟨p, 0, none⟩ (.int .i64 x.clubs)).setCell ⟨p, 1, none⟩ (.slice (some ⟨g, 0, none⟩) x.results.length c2)) :=
    ((Keep.refl _ _ _).setCell (p := ⟨p, 0, none⟩) (Nat.le_refl _) (Nat.lt_succ_self _) _).setCell (p := ⟨p, 1, none⟩) (Nat.le_refl _) (Nat.lt_succ_self _) _
  have hsz := kp.size
  have hg := h1.2.1 g rfl
  exact ⟨(h1.tight.keep kp (by omega)).wide hlo (by omega) (Nat.le_refl _), h2, h3, by simp [go_sem, p0], by simp [go_sem, p1], h4.below ((kp.below (B := w.heap.size + 2) hp h4.sz).mono (Nat.le_refl _))⟩
theorem slR_drew {w : World} {A : Option Addr} {rs : List Res} (h : SlR w A rs) : SlR w.drew A rs := h

def setF (x : LeagueV) (i z u : Int) : LeagueV := if leagueB (replQ x i z u) then replQ x i z u else ⟨0, []⟩
set_option maxHeartbeats 2000000 in
set_option maxRecDepth 100000 in
theorem l27Set_any (v : Value) (x : LeagueV) (k : Nat) (z u : Int) (w : World) (hs : InL w v x) (hn : x.results.length ≤ 1048576) (hk : k < x.results.length) :
    Calls Try.prog 41 #[v, .int .i64 (k : Int), .int .i64 z, .int .i64 u] w fun e w' => ∃ v', e = .returned (.tuple #[v', .bool (leagueB (replQ x k z u))]) ∧ OwL w' w.heap.size w'.heap.size v' (setF x k z u) ∧ Below w.heap.size w w' := by
  have hs0 := hs
  obtain ⟨A, c, rfl, hc, hm, hsl, hw⟩ := hs
  obtain ⟨ad, rfl⟩ : ∃ ad, A = some ad := by
    obtain ⟨b, off, _, h, _⟩ := hsl.at_ hk
    exact ⟨_, h⟩
  have HS := Lib.hid (And.intro hs0 hsl)
  clear hs0 hsl
  go_enter Try.func41, Try.ntmps41
  go_upto_region 1 with fail
  go_cut [10] from 11 to 17 (fun s10 wx => ∃ p g c2, s10 = .pointer (some ⟨p, 0, none⟩) ∧ w.heap.size + 1 < p ∧ p < wx.heap.size ∧ p ≠ g ∧ Hid (SetMid w wx x ad c p g c2))
  case first =>
    go_region_held3 (fun W => W.cell? ⟨w.heap.size, 0, none⟩ = some (.int .i64 x.clubs) ∧ W.cell? ⟨w.heap.size, 1, none⟩ = some (.slice (some ad) x.results.length c)) (first | go_keep | exact ⟨((World.cell?_setCell_far _ _ _ _ (by simp; omega)).trans (World.cell?_setCell_far _ _ _ _ (by simp; omega))).trans y0, ((World.cell?_setCell_far _ _ _ _ (by simp; omega)).trans (World.cell?_setCell_far _ _ _ _ (by simp; omega))).trans y1⟩) (first
      | (refine stepAppR rfl (.tmp 13) (.tmp 15) rfl (w.heap.size + 2) _ 0 [] rfl (setOwn1 w x.clubs ad x.results.length c) ad x.results.length c x.results rfl rfl (slR_drew (SlI.alloc (SlI.alloc (SlI.alloc (HS.out.2) _) _) _)) (by omega) (setAt1 w x.clubs ad x.results.length c).sz ?_; intro v' w1 hown hb hg; rw [Nat.zero_add, List.nil_append] at hown; obtain ⟨A2, c2, rfl, hc2, hm2⟩ := (FrR.of_own hown).form; obtain ⟨g, r', rfl, hlo, hhi, _⟩ := (FrR.of_own hown).at_ hk; obtain ⟨at1, fr1⟩ := setFin (setAt1 w x.clubs ad x.results.length c) hown rfl hb; have y0 := at1.y0; have y1 := at1.y1; clear hown hb hg)
      | (refine stepAppR rfl (.tmp 13) (.tmp 15) rfl (w.heap.size + 2) _ 0 [] rfl (setOwn2 w x.clubs ad x.results.length c) ad x.results.length c x.results rfl rfl (slR_drew (SlI.alloc (SlI.alloc (SlI.alloc (SlI.alloc (HS.out.2) _) _) _) _)) (by omega) (setAt2 w x.clubs ad x.results.length c).sz ?_; intro v' w1 hown hb hg; rw [Nat.zero_add, List.nil_append] at hown; obtain ⟨A2, c2, rfl, hc2, hm2⟩ := (FrR.of_own hown).form; obtain ⟨g, r', rfl, hlo, hhi, _⟩ := (FrR.of_own hown).at_ hk; obtain ⟨at1, fr1⟩ := setFin (setAt2 w x.clubs ad x.results.length c) hown rfl hb; have y0 := at1.y0; have y1 := at1.y1; obtain ⟨p0, p1, pf0, pf1, pne, plt⟩ := setFin2 hown hg (setBox2 w x.clubs ad x.results.length c) (by simp); clear hown hb hg)
      | (refine stepAppR rfl (.tmp 13) (.tmp 15) rfl (w.heap.size + 2) _ 0 [] rfl (setOwn3 w x.clubs ad x.results.length c) ad x.results.length c x.results rfl rfl (slR_drew (SlI.alloc (SlI.alloc (SlI.alloc (SlI.alloc (HS.out.2) _) _) _) _)) (by omega) (setAt3 w x.clubs ad x.results.length c).sz ?_; intro v' w1 hown hb hg; rw [Nat.zero_add, List.nil_append] at hown; obtain ⟨A2, c2, rfl, hc2, hm2⟩ := (FrR.of_own hown).form; obtain ⟨g, r', rfl, hlo, hhi, _⟩ := (FrR.of_own hown).at_ hk; obtain ⟨at1, fr1⟩ := setFin (setAt3 w x.clubs ad x.results.length c) hown rfl hb; have y0 := at1.y0; have y1 := at1.y1; obtain ⟨p0, p1, pf0, pf1, pne, plt⟩ := setFin2 hown hg (setBox3 w x.clubs ad x.results.length c) (by simp); clear hown hb hg))
    all_goals (go_wp2_with fail; go_meet)
    · exact ⟨_, g, c2, rfl, by have := at1.sz; omega, by simp, by omega, setMid_new fr1 hc2 hm2 at1⟩
    · exact ⟨_, g, c2, rfl, by omega, by simpa using plt, pne, setMid_put fr1 hc2 hm2 at1 (by omega) plt pne hlo p0 p1⟩
    · exact ⟨_, g, c2, rfl, by omega, by simpa using plt, pne, setMid_put fr1 hc2 hm2 at1 (by omega) plt pne hlo p0 p1⟩
  case rest =>
    obtain ⟨p, g, c2, rfl, hp1, hp2, hpg, HF⟩ := hcut
    have hxk : x.results[k]? = some x.results[k] := List.getElem?_eq_getElem hk
    generalize x.results[k] = r at *
    have HQ : Hid (replQ x k z u = ⟨x.clubs, x.results.set k ⟨r.h, r.a, z, u⟩⟩) := by
      show _ = _
      unfold replQ
      rw [Int.toNat_natCast, List.getD_eq_getElem?_getD, hxk]; rfl
    obtain ⟨hf, hc2, hm2, q0, q1, at1⟩ := HF.out
    clear HF
    obtain ⟨g', he, hg1, hg2, cz, cu, hfz, hst⟩ := hf.at2 hxk
    obtain rfl : g = g' := by injection he with he; injection he
    clear he hxk
    have z1 := hfz (k * 4 + 2)
    have z2 := hfz (k * 4 + 3)
    obtain ⟨f3, kp3⟩ := hst z u
    have kpg : Keep g (g + 1) wc ((wc.setCell ⟨g, k * 4 + 2, none⟩ (.int .i64 z)).setCell ⟨g, k * 4 + 3, none⟩ (.int .i64 u)) := ((Keep.refl _ _ _).setCell (p := ⟨g, k * 4 + 2, none⟩) (Nat.le_refl _) (Nat.lt_succ_self _) _).setCell (p := ⟨g, k * 4 + 3, none⟩) (Nat.le_refl _) (Nat.lt_succ_self _) _
    have at3 := at1.below (kpg.below (B := w.heap.size + 2) hg1 at1.sz)
    have HP : Hid (((wc.setCell ⟨g, k * 4 + 2, none⟩ (.int .i64 z)).setCell ⟨g, k * 4 + 3, none⟩ (.int .i64 u)).cell? ⟨p, 0, none⟩ = some (.int .i64 x.clubs) ∧ ((wc.setCell ⟨g, k * 4 + 2, none⟩ (.int .i64 z)).setCell ⟨g, k * 4 + 3, none⟩ (.int .i64 u)).cell? ⟨p, 1, none⟩ = some (.slice (some ⟨g, 0, none⟩) x.results.length c2) ∧ p < ((wc.setCell ⟨g, k * 4 + 2, none⟩ (.int .i64 z)).setCell ⟨g, k * 4 + 3, none⟩ (.int .i64 u)).heap.size) := ⟨by simp [go_sem, q0], by simp [go_sem, q1], by simp [go_sem]; omega⟩
    have hpg2 : ¬ g = p := fun h => hpg h.symm
    have H3 := Lib.hid (And.intro f3 at3)
    clear f3 kp3 kpg at3 at1 hf hst hfz
    go_wp2_with fail
    generalize ((wc.setCell ⟨g, k * 4 + 2, none⟩ (.int .i64 z)).setCell ⟨g, k * 4 + 3, none⟩ (.int .i64 u)) = w3 at *
    clear cz cu z1 z2 q0 q1
    refine (specLeagueOk_any _ ⟨x.clubs, x.results.set k ⟨r.h, r.a, z, u⟩⟩ w3 ⟨some ⟨g, 0, none⟩, c2, by rw [List.length_set], by rw [List.length_set]; exact hc2, hm2, H3.out.1.sl, hw⟩).mono ?_
    rintro e w4 ⟨rfl, hb4⟩
    have at4 := H3.out.2.below (hb4.mono H3.out.2.sz)
    have q0 := (hb4.cell (p := ⟨p, 0, none⟩) HP.out.2.2).trans HP.out.1
    have q1 := (hb4.cell (p := ⟨p, 1, none⟩) HP.out.2.2).trans HP.out.2.1
    have F4 : Hid (FrR w4 (w.heap.size + 2) wc.heap.size (.slice (some ⟨g, 0, none⟩) x.results.length c2) (x.results.set k ⟨r.h, r.a, z, u⟩)) := H3.out.1.grow hb4
    clear hb4
    have r0 := at4.r0
    have r1 := at4.r1
    have r2 := at4.f0
    have r3 := at4.f1
    cases hq : leagueB ⟨x.clubs, x.results.set k ⟨r.h, r.a, z, u⟩⟩
    · have HO : Hid (leagueB (replQ x k z u) = false ∧ setF x k z u = ⟨0, []⟩) := by
        have h : leagueB (replQ x k z u) = false := by rw [HQ.out, hq]
        exact ⟨h, by rw [setF, h]; rfl⟩
      go_wp2
      have KP : Keep (w.heap.size + 1) (w.heap.size + 2) w4 ((w4.setCell ⟨w.heap.size + 1, 0, none⟩ (.int .i64 0)).setCell ⟨w.heap.size + 1, 1, none⟩ (.slice none 0 0)) :=
        ((Keep.refl _ _ _).setCell (p := ⟨w.heap.size + 1, 0, none⟩) (Nat.le_refl _) (Nat.lt_succ_self _) _).setCell (p := ⟨w.heap.size + 1, 1, none⟩) (Nat.le_refl _) (Nat.lt_succ_self _) _
      refine bodyPost_ret (v := .tuple #[.agg #[.int .i64 0, .slice none 0 0], .bool false]) (by simp [results, Try.results41, go_sem, r0, r1]) rfl ⟨_, by rw [HO.out.1], ?_, at4.be.trans (KP.below (by omega) at4.be.size)⟩
      rw [HO.out.2]
      exact ⟨_, rfl, FrR.nil _ (Nat.le_refl _), by decide⟩
    · have HO : Hid (leagueB (replQ x k z u) = true ∧ setF x k z u = ⟨x.clubs, x.results.set k ⟨r.h, r.a, z, u⟩⟩) := by
        have h : leagueB (replQ x k z u) = true := by rw [HQ.out, hq]
        exact ⟨h, by rw [setF, h]; exact HQ.out⟩
      go_wp2
      have KP : Keep (w.heap.size + 1) (w.heap.size + 2) w4 ((w4.setCell ⟨w.heap.size + 1, 0, none⟩ (.int .i64 x.clubs)).setCell ⟨w.heap.size + 1, 1, none⟩ (.slice (some ⟨g, 0, none⟩) x.results.length c2)) :=
        ((Keep.refl _ _ _).setCell (p := ⟨w.heap.size + 1, 0, none⟩) (Nat.le_refl _) (Nat.lt_succ_self _) _).setCell (p := ⟨w.heap.size + 1, 1, none⟩) (Nat.le_refl _) (Nat.lt_succ_self _) _
      refine bodyPost_ret (v := .tuple #[.agg #[.int .i64 x.clubs, .slice (some ⟨g, 0, none⟩) x.results.length c2], .bool true]) (by simp [results, Try.results41, go_sem, r0, r1]) rfl ⟨_, by rw [HO.out.1], ?_, at4.be.trans (KP.below (by omega) at4.be.size)⟩
      rw [HO.out.2]
      exact ⟨_, rfl, (F4.out.keep KP (.inr (Nat.le_refl _))).wide (by omega) (by have := F4.out.2.2; have := KP.size; omega) (Nat.le_refl _), hw⟩

set_option maxHeartbeats 2000000 in
set_option maxRecDepth 100000 in
theorem specReplaceResult_any (v : Value) (x : LeagueV) (i z u : Int) (w : World) (hs : InL w v x) (hn : x.results.length ≤ 1048576) :
    Calls Try.prog 31 #[v, .int .i64 i, .int .i64 z, .int .i64 u] w fun e w' => ∃ v', e = .returned (.tuple #[v', .bool (replOk x i z u)]) ∧ OwL w' w.heap.size w'.heap.size v' (replF x i z u) ∧ Below w.heap.size w w' := by
  have hs0 := hs
  obtain ⟨A, c, rfl, hc, hm, hsl, hw⟩ := hs
  have HS := Lib.hid (And.intro hs0 hsl)
  clear hs0 hsl
  cases h1 : hasR x i
  · have HO : Hid (replOk x i z u = false ∧ replF x i z u = ⟨0, []⟩) := by constructor <;> simp [replF, replOk, h1]
    go_enter Try.func31, Try.ntmps31
    go_wp2_with fail
    refine (l27At_any _ x i _ (HS.out.1.below (((Below.refl _ w).alloc (Nat.le_refl _) _).alloc (by simp) _)) hn).mono ?_
    rintro e w1 ⟨rfl, hb⟩
    rw [h1]
    (try simp only [World.size_alloc] at hb)
    have r0 : w1.cell? ⟨w.heap.size + 1, 0, none⟩ = some (.int .i64 0) := by rw [hb.cell (p := ⟨w.heap.size + 1, 0, none⟩) (by show w.heap.size + 1 < _; first | omega | simp)]; simp [go_sem]
    have r1 : w1.cell? ⟨w.heap.size + 1, 1, none⟩ = some (.slice none 0 0) := by rw [hb.cell (p := ⟨w.heap.size + 1, 1, none⟩) (by show w.heap.size + 1 < _; first | omega | simp)]; simp [go_sem]
    have r2 : w1.frozen? ⟨w.heap.size + 1, 0, none⟩ = false := by rw [hb.frozen (p := ⟨w.heap.size + 1, 0, none⟩) (by show w.heap.size + 1 < _; first | omega | simp)]; simp [go_sem]
    have r3 : w1.frozen? ⟨w.heap.size + 1, 1, none⟩ = false := by rw [hb.frozen (p := ⟨w.heap.size + 1, 1, none⟩) (by show w.heap.size + 1 < _; first | omega | simp)]; simp [go_sem]
    have HB : Hid (Below w.heap.size w w1) := (((Below.refl _ w).alloc (Nat.le_refl _) _).alloc (by simp) _).trans (hb.mono (by first | omega | (simp; omega)))
    clear hb
    go_wp2
    have KP : Keep (w.heap.size + 1) (w.heap.size + 2) w1 ((w1.setCell ⟨w.heap.size + 1, 0, none⟩ (.int .i64 0)).setCell ⟨w.heap.size + 1, 1, none⟩ (.slice none 0 0)) :=
      ((Keep.refl _ _ _).setCell (p := ⟨w.heap.size + 1, 0, none⟩) (Nat.le_refl _) (Nat.lt_succ_self _) _).setCell (p := ⟨w.heap.size + 1, 1, none⟩) (Nat.le_refl _) (Nat.lt_succ_self _) _
    refine bodyPost_ret (v := .tuple #[.agg #[.int .i64 0, .slice none 0 0], .bool false]) (by simp [results, Try.results31, go_sem, r0, r1]) rfl ⟨_, by rw [HO.out.1], ?_, HB.out.trans (KP.below (by omega) HB.out.size)⟩
    rw [HO.out.2]
    exact ⟨_, rfl, FrR.nil _ (Nat.le_refl _), by decide⟩
  · have hib : inB i 0 ((x.results.length : Int) - 1) = true := by
      unfold hasR at h1; rw [Bool.and_eq_true] at h1; exact h1.2
    obtain ⟨i1, i2⟩ := inB_t.1 hib
    obtain ⟨k, rfl⟩ := Int.eq_ofNat_of_zero_le i1
    have hk : k < x.results.length := by omega
    have HO : Hid (replOk x k z u = leagueB (replQ x k z u) ∧ replF x k z u = setF x k z u) := by
      have h : replOk x k z u = leagueB (replQ x k z u) := by rw [replOk, h1]; rfl
      exact ⟨h, by rw [replF, h]; rfl⟩
    have H1 := Lib.hid h1
    clear hib h1
    go_enter Try.func31, Try.ntmps31
    go_wp2_with fail
    refine (l27At_any _ x _ _ (HS.out.1.below (((Below.refl _ w).alloc (Nat.le_refl _) _).alloc (by simp) _)) hn).mono ?_
    rintro e w1 ⟨rfl, hb⟩
    rw [H1.out]
    (try simp only [World.size_alloc] at hb)
    have q0 : w1.cell? ⟨w.heap.size, 0, none⟩ = some (.int .i64 x.clubs) := by rw [hb.cell (p := ⟨w.heap.size, 0, none⟩) (by show w.heap.size < _; first | omega | simp)]; simp [go_sem]
    have q1 : w1.cell? ⟨w.heap.size, 1, none⟩ = some (.slice A x.results.length c) := by rw [hb.cell (p := ⟨w.heap.size, 1, none⟩) (by show w.heap.size < _; first | omega | simp)]; simp [go_sem]
    have r0 : w1.cell? ⟨w.heap.size + 1, 0, none⟩ = some (.int .i64 0) := by rw [hb.cell (p := ⟨w.heap.size + 1, 0, none⟩) (by show w.heap.size + 1 < _; first | omega | simp)]; simp [go_sem]
    have r1 : w1.cell? ⟨w.heap.size + 1, 1, none⟩ = some (.slice none 0 0) := by rw [hb.cell (p := ⟨w.heap.size + 1, 1, none⟩) (by show w.heap.size + 1 < _; first | omega | simp)]; simp [go_sem]
    have r2 : w1.frozen? ⟨w.heap.size + 1, 0, none⟩ = false := by rw [hb.frozen (p := ⟨w.heap.size + 1, 0, none⟩) (by show w.heap.size + 1 < _; first | omega | simp)]; simp [go_sem]
    have r3 : w1.frozen? ⟨w.heap.size + 1, 1, none⟩ = false := by rw [hb.frozen (p := ⟨w.heap.size + 1, 1, none⟩) (by show w.heap.size + 1 < _; first | omega | simp)]; simp [go_sem]
    have hsz : w.heap.size + 2 ≤ w1.heap.size := by have := hb.size; simp at this; omega
    have HB : Hid (Below w.heap.size w w1) := (((Below.refl _ w).alloc (Nat.le_refl _) _).alloc (by simp) _).trans (hb.mono (by first | omega | (simp; omega)))
    have R1 : Hid (w1.cell? ⟨w.heap.size + 1, 0, none⟩ = some (.int .i64 0) ∧ w1.cell? ⟨w.heap.size + 1, 1, none⟩ = some (.slice none 0 0) ∧ w1.frozen? ⟨w.heap.size + 1, 0, none⟩ = false ∧ w1.frozen? ⟨w.heap.size + 1, 1, none⟩ = false) := ⟨r0, r1, r2, r3⟩
    clear hb r0 r1 r2 r3
    go_wp2_with fail
    refine (l27Set_any _ x k z u w1 (HS.out.1.below HB.out) hn hk).mono ?_
    rintro e w2 ⟨v2, rfl, ho, hb2⟩
    have r0 := (hb2.cell (p := ⟨w.heap.size + 1, 0, none⟩) (by show w.heap.size + 1 < _; omega)).trans R1.out.1
    have r1 := (hb2.cell (p := ⟨w.heap.size + 1, 1, none⟩) (by show w.heap.size + 1 < _; omega)).trans R1.out.2.1
    have r2 := (hb2.frozen (p := ⟨w.heap.size + 1, 0, none⟩) (by show w.heap.size + 1 < _; omega)).trans R1.out.2.2.1
    have r3 := (hb2.frozen (p := ⟨w.heap.size + 1, 1, none⟩) (by show w.heap.size + 1 < _; omega)).trans R1.out.2.2.2
    obtain ⟨A2, c2, rfl⟩ := ho.form
    have HB2 : Hid (Below w.heap.size w w2 ∧ OwL w2 w1.heap.size w2.heap.size (.agg #[.int .i64 (setF x k z u).clubs, .slice A2 (setF x k z u).results.length c2]) (setF x k z u)) := ⟨HB.out.trans (hb2.mono HB.out.size), ho⟩
    clear hb2 ho q0 q1
    go_wp2
    have KP : Keep (w.heap.size + 1) (w.heap.size + 2) w2 ((w2.setCell ⟨w.heap.size + 1, 0, none⟩ (.int .i64 (setF x k z u).clubs)).setCell ⟨w.heap.size + 1, 1, none⟩ (.slice A2 (setF x k z u).results.length c2)) :=
      ((Keep.refl _ _ _).setCell (p := ⟨w.heap.size + 1, 0, none⟩) (Nat.le_refl _) (Nat.lt_succ_self _) _).setCell (p := ⟨w.heap.size + 1, 1, none⟩) (Nat.le_refl _) (Nat.lt_succ_self _) _
    refine bodyPost_ret (v := .tuple #[.agg #[.int .i64 (setF x k z u).clubs, .slice A2 (setF x k z u).results.length c2], .bool (leagueB (replQ x k z u))]) (by simp [results, Try.results31, go_sem, r0, r1]) rfl ⟨_, by rw [HO.out.1], ?_, HB2.out.1.trans (KP.below (by omega) HB2.out.1.size)⟩
    rw [HO.out.2]
    exact (HB2.out.2.keep KP (.inr hsz)).wide (by omega) KP.size (Nat.le_refl _)
theorem specReplaceResult_std (v : Value) (x : LeagueV) (i z u : Int) (w : World) (hs : InL w v x) (hn : x.results.length ≤ 1048576) (_hi : (Lit.int .i64 i).wf = true) (_hz : (Lit.int .i64 z).wf = true) (_hu : (Lit.int .i64 u).wf = true) :
    Calls Try.prog 31 #[v, .int .i64 i, .int .i64 z, .int .i64 u] w fun e w' => ∃ v', e = .returned (.tuple #[v', .bool (replOk x i z u)]) ∧ OwL w' w.heap.size w'.heap.size v' (replF x i z u) ∧ Below w.heap.size w w' := specReplaceResult_any v x i z u w hs hn

theorem replQ_len (x : LeagueV) (i z u : Int) : (replQ x i z u).results.length = x.results.length := by simp [replQ]
theorem replF_len {x : LeagueV} {i z u : Int} (h : x.results.length ≤ 1048576) : (replF x i z u).results.length ≤ 1048576 := by
  unfold replF
  split
  · rw [replQ_len]; exact h
  · simp
end Go.Proofs.Ythfllppknngfpaa
