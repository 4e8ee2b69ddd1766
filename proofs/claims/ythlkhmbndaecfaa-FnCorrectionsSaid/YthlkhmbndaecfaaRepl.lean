/- Corrections of a league: the reference's contracts. -/
import Derived.Test.YthlkhmbndaecfaaCr
import Derived.Test.YthlkhmbndaecfaaBox
import Derived.Deep.RegionLaw
import Derived.Deep.RegionHeld3
import Derived.Deep.Cut
import Derived.Deep.CutRange
namespace Go.Proofs.Ythlkhmbndaecfaa
open Go.ChangeShapes Go.WideShapes Go.ChangeAt Go.RowKit

theorem OwL.drew {w : World} {lo hi : Nat} {v : Value} {x : LeagueV} (h : OwL w lo hi v x) : OwL w.drew lo hi v x := h
theorem OwL.wide {w : World} {lo hi lo' hi' : Nat} {v : Value} {x : LeagueV} (h : OwL w lo hi v x) (h1 : lo' ≤ lo) (h2 : hi ≤ hi') (h3 : hi' ≤ w.heap.size) : OwL w lo' hi' v x := by
  obtain ⟨u, rfl, hf, hw⟩ := h
  exact ⟨u, rfl, hf.wide h1 h2 h3, hw⟩
theorem OwL.form {w : World} {lo hi : Nat} {v : Value} {x : LeagueV} (h : OwL w lo hi v x) : ∃ A c, v = .agg #[.int .i64 x.clubs, .slice A x.results.length c] := by
  obtain ⟨u, rfl, hf, _⟩ := h
  obtain ⟨A, c, rfl, _⟩ := hf.form
  exact ⟨A, c, rfl⟩

set_option maxRecDepth 100000 in
/-- 'append(out, src...)' at a row of results of the call's own, as a step of a region that draws. -/
theorem stepAppR {ops : Array Oper} {o : Oper} {a : Act} {w : World} {K : Act → World → Prop} {Q : Exit → Act → World → Prop} {E : Prop} (hgd : o.guard = none) (s y : Operand)
    (ho : o.op = .call { callee := .builtin .append, args := #[s, y], argTypes := #[23, 23] })
    (base : Nat) (v : Value) (n : Nat) (xs : List Res) (hs : a.eval s = v) (hown : w.ownsRow base 39 4 v n (ints (flat xs))) (ad : Addr) (m c : Nat) (ys : List Res) (hm : ys.length = m)
    (hx : a.eval y = .slice (some ad) m c) (hys : SlR w (some ad) ys) (hl : n + m ≤ 1048576) (hbase : base ≤ w.heap.size)
    (h : ∀ v' w', w'.ownsRow base 39 4 v' (n + m) (ints (flat (xs ++ ys))) → (∀ B, B ≤ base → B ≤ w.heap.size → Below B w w') → w.grownBy w' v.ownBlock → K (a.put o.dst v') w') :
    if Region.wanted o (yielded ops a.tmps) = true then Oper.wp Try.prog o a w K Q else E := by
  obtain ⟨i0, hi, hz0, hz1, hz2⟩ := info_parts infoR
  have hw : Region.wanted o (yielded ops a.tmps) = true := by simp [Region.wanted, hgd]
  rw [if_pos hw]
  obtain ⟨v', w', hrun, r1, r2, _⟩ := run_append_own (P := Try.prog) w base 23 o.type 39 i0 _ 4 32 Try.underlying23 hi hz0 hz1 hz2 rfl (by decide) v n (ints (flat xs)) hown ad m c (ints (flat ys)) (by simp [ints, flat_length, hm]) (by
    intro j u hj
    rcases hys with hy | ⟨b, off, hA, hc⟩
    · rw [hy] at hj; simp [ints] at hj
    · injection hA with hA
      subst hA
      simp only [ints, List.getElem?_map, Option.map_eq_some_iff] at hj
      obtain ⟨y, hy, rfl⟩ := hj
      rw [Go.WideShapes.add_plain]; exact hc j y hy) (by
    intro u hu
    simp only [ints, List.mem_map] at hu
    obtain ⟨y, _, rfl⟩ := hu; rfl) (by unfold maxLen; omega) (by omega) hbase
  unfold Oper.wp
  simp [execOp, ho, resolve, invoke, builtin, hs, hx, hrun, Result.andThen]
  refine h v' w' (by rw [flat_append, ints_append]; exact r1) (fun B h4 h5 => ?_) r2
  refine (Below.refl B w).grown r2 h5 (fun k hk => ?_)
  have := (hown.lt k hk).1; omega

theorem ownsE (W : World) (b base : Nat) (hb : b = W.heap.size) (h : base ≤ b) : (W.alloc (.cells #[] 39)).ownsRow base 39 4 (.slice (some ⟨b, 0, none⟩) 0 0) 0 (ints (flat [])) := by
  subst hb; exact World.ownsRow_made W #[] 0 h (by unfold maxLen; omega) rfl
theorem ownNe {w : World} {base g n c p : Nat} {xs : List Value} {a : Array Value} (h : w.ownsRow base 39 4 (.slice (some ⟨g, 0, none⟩) n c) n xs) (hp : w.heap[p]? = some (.cells a 25 (0, 0))) : p ≠ g := by
  rintro rfl
  rcases h.2 with ⟨h, _⟩ | ⟨g', _, cur, h, _, h2, _⟩
  · cases h
  · injection h with h _ _
    injection h with h
    injection h with h _ _
    subst h
    rw [hp] at h2
    injection h2 with h2
    injection h2 with _ h2 _
    exact absurd h2 (by decide)
theorem below_drewR {B : Nat} {a w : World} (h : Below B a w) : Below B a w.drew := ⟨h.os, h.tape, h.output, h.size, h.block⟩
/-- What the region of l27Set has at hand: the box of the argument, the box of the result. -/
structure SetAt (w W : World) (cl : Int) (ad : Addr) (n c : Nat) : Prop where
  y0 : W.cell? ⟨w.heap.size, 0, none⟩ = some (.int .i64 cl)
  y1 : W.cell? ⟨w.heap.size, 1, none⟩ = some (.slice (some ad) n c)
  r0 : W.cell? ⟨w.heap.size + 1, 0, none⟩ = some (.int .i64 0)
  r1 : W.cell? ⟨w.heap.size + 1, 1, none⟩ = some (.slice none 0 0)
  f0 : W.frozen? ⟨w.heap.size + 1, 0, none⟩ = false
  f1 : W.frozen? ⟨w.heap.size + 1, 1, none⟩ = false
  sz : w.heap.size + 2 ≤ W.heap.size
  be : Below w.heap.size w W
theorem SetAt.below {w W W' : World} {cl : Int} {ad : Addr} {n c : Nat} (h : SetAt w W cl ad n c) (hb : Below (w.heap.size + 2) W W') : SetAt w W' cl ad n c :=
  ⟨(hb.cell (p := ⟨w.heap.size, 0, none⟩) (by show w.heap.size < _; omega)).trans h.y0, (hb.cell (p := ⟨w.heap.size, 1, none⟩) (by show w.heap.size < _; omega)).trans h.y1,
   (hb.cell (p := ⟨w.heap.size + 1, 0, none⟩) (by show w.heap.size + 1 < _; omega)).trans h.r0, (hb.cell (p := ⟨w.heap.size + 1, 1, none⟩) (by show w.heap.size + 1 < _; omega)).trans h.r1,
   (hb.frozen (p := ⟨w.heap.size + 1, 0, none⟩) (by show w.heap.size + 1 < _; omega)).trans h.f0, (hb.frozen (p := ⟨w.heap.size + 1, 1, none⟩) (by show w.heap.size + 1 < _; omega)).trans h.f1,
   Nat.le_trans h.sz hb.size, h.be.trans (hb.mono (by omega))⟩
theorem SetAt.drew {w W : World} {cl : Int} {ad : Addr} {n c : Nat} (h : SetAt w W cl ad n c) : SetAt w W.drew cl ad n c := ⟨h.y0, h.y1, h.r0, h.r1, h.f0, h.f1, h.sz, below_drewR h.be⟩
theorem setAt1 (w : World) (cl : Int) (ad : Addr) (n c : Nat) : SetAt w (((w.alloc (.cells #[.int .i64 cl, .slice (some ad) n c] 25)).alloc (.cells #[.int .i64 0, .slice none 0 0] 25)).alloc (.cells #[] 39)).drew cl ad n c :=
  SetAt.drew ⟨by simp [go_sem], by simp [go_sem], by simp [go_sem], by simp [go_sem], by simp [go_sem], by simp [go_sem], by simp <;> omega, ((((Below.refl _ w).alloc (Nat.le_refl _) _).alloc (by simp <;> omega) _).alloc (by simp <;> omega) _)⟩
theorem setAt2 (w : World) (cl : Int) (ad : Addr) (n c : Nat) : SetAt w ((((w.alloc (.cells #[.int .i64 cl, .slice (some ad) n c] 25)).alloc (.cells #[.int .i64 0, .slice none 0 0] 25)).alloc (.cells #[] 39)).alloc (.cells #[.int .i64 0, .slice none 0 0] 25)).drew cl ad n c :=
  SetAt.drew ⟨by simp [go_sem], by simp [go_sem], by simp [go_sem], by simp [go_sem], by simp [go_sem], by simp [go_sem], by simp <;> omega, (((((Below.refl _ w).alloc (Nat.le_refl _) _).alloc (by simp <;> omega) _).alloc (by simp <;> omega) _).alloc (by simp <;> omega) _)⟩
theorem setAt3 (w : World) (cl : Int) (ad : Addr) (n c : Nat) : SetAt w ((((w.alloc (.cells #[.int .i64 cl, .slice (some ad) n c] 25)).alloc (.cells #[.int .i64 0, .slice none 0 0] 25)).alloc (.cells #[.int .i64 0, .slice none 0 0] 25)).alloc (.cells #[] 39)).drew cl ad n c :=
  SetAt.drew ⟨by simp [go_sem], by simp [go_sem], by simp [go_sem], by simp [go_sem], by simp [go_sem], by simp [go_sem], by simp <;> omega, (((((Below.refl _ w).alloc (Nat.le_refl _) _).alloc (by simp <;> omega) _).alloc (by simp <;> omega) _).alloc (by simp <;> omega) _)⟩
theorem setOwn1 (w : World) (cl : Int) (ad : Addr) (n c : Nat) : World.ownsRow (((w.alloc (.cells #[.int .i64 cl, .slice (some ad) n c] 25)).alloc (.cells #[.int .i64 0, .slice none 0 0] 25)).alloc (.cells #[] 39)).drew (w.heap.size + 2) 39 4 (.slice (some ⟨w.heap.size + 1 + 1, 0, none⟩) 0 0) 0 (ints (flat [])) := ownsE ((w.alloc (.cells #[.int .i64 cl, .slice (some ad) n c] 25)).alloc (.cells #[.int .i64 0, .slice none 0 0] 25)) _ _ (by simp) (by simp)
theorem setOwn2 (w : World) (cl : Int) (ad : Addr) (n c : Nat) : World.ownsRow ((((w.alloc (.cells #[.int .i64 cl, .slice (some ad) n c] 25)).alloc (.cells #[.int .i64 0, .slice none 0 0] 25)).alloc (.cells #[] 39)).alloc (.cells #[.int .i64 0, .slice none 0 0] 25)).drew (w.heap.size + 2) 39 4 (.slice (some ⟨w.heap.size + 1 + 1, 0, none⟩) 0 0) 0 (ints (flat [])) := (ownsE ((w.alloc (.cells #[.int .i64 cl, .slice (some ad) n c] 25)).alloc (.cells #[.int .i64 0, .slice none 0 0] 25)) _ _ (by simp) (by simp)).alloc _
theorem setOwn3 (w : World) (cl : Int) (ad : Addr) (n c : Nat) : World.ownsRow ((((w.alloc (.cells #[.int .i64 cl, .slice (some ad) n c] 25)).alloc (.cells #[.int .i64 0, .slice none 0 0] 25)).alloc (.cells #[.int .i64 0, .slice none 0 0] 25)).alloc (.cells #[] 39)).drew (w.heap.size + 2) 39 4 (.slice (some ⟨w.heap.size + 1 + 1 + 1, 0, none⟩) 0 0) 0 (ints (flat [])) := ownsE (((w.alloc (.cells #[.int .i64 cl, .slice (some ad) n c] 25)).alloc (.cells #[.int .i64 0, .slice none 0 0] 25)).alloc (.cells #[.int .i64 0, .slice none 0 0] 25)) _ _ (by simp) (by simp <;> omega)
theorem setBox2 (w : World) (cl : Int) (ad : Addr) (n c : Nat) : (((((w.alloc (.cells #[.int .i64 cl, .slice (some ad) n c] 25)).alloc (.cells #[.int .i64 0, .slice none 0 0] 25)).alloc (.cells #[] 39)).alloc (.cells #[.int .i64 0, .slice none 0 0] 25)).drew).heap[w.heap.size + 1 + 1 + 1]? = some (.cells #[.int .i64 0, .slice none 0 0] 25 (0, 0)) ∧ w.heap.size + 1 + 1 + 1 < (((((w.alloc (.cells #[.int .i64 cl, .slice (some ad) n c] 25)).alloc (.cells #[.int .i64 0, .slice none 0 0] 25)).alloc (.cells #[] 39)).alloc (.cells #[.int .i64 0, .slice none 0 0] 25)).drew).heap.size := ⟨(by rw [show w.heap.size + 1 + 1 + 1 = (((w.alloc (.cells #[.int .i64 cl, .slice (some ad) n c] 25)).alloc (.cells #[.int .i64 0, .slice none 0 0] 25)).alloc (.cells #[] 39)).heap.size from by simp]; exact heap_alloc_new _ _), by simp <;> omega⟩
theorem setBox3 (w : World) (cl : Int) (ad : Addr) (n c : Nat) : (((((w.alloc (.cells #[.int .i64 cl, .slice (some ad) n c] 25)).alloc (.cells #[.int .i64 0, .slice none 0 0] 25)).alloc (.cells #[.int .i64 0, .slice none 0 0] 25)).alloc (.cells #[] 39)).drew).heap[w.heap.size + 1 + 1]? = some (.cells #[.int .i64 0, .slice none 0 0] 25 (0, 0)) ∧ w.heap.size + 1 + 1 < (((((w.alloc (.cells #[.int .i64 cl, .slice (some ad) n c] 25)).alloc (.cells #[.int .i64 0, .slice none 0 0] 25)).alloc (.cells #[.int .i64 0, .slice none 0 0] 25)).alloc (.cells #[] 39)).drew).heap.size := ⟨((((Below.refl (((w.alloc (.cells #[.int .i64 cl, .slice (some ad) n c] 25)).alloc (.cells #[.int .i64 0, .slice none 0 0] 25)).alloc (.cells #[.int .i64 0, .slice none 0 0] 25)).heap.size (((w.alloc (.cells #[.int .i64 cl, .slice (some ad) n c] 25)).alloc (.cells #[.int .i64 0, .slice none 0 0] 25)).alloc (.cells #[.int .i64 0, .slice none 0 0] 25))).alloc (Nat.le_refl _) (.cells #[] 39)).block _ (by simp)).trans (by rw [show w.heap.size + 1 + 1 = ((w.alloc (.cells #[.int .i64 cl, .slice (some ad) n c] 25)).alloc (.cells #[.int .i64 0, .slice none 0 0] 25)).heap.size from by simp]; exact heap_alloc_new _ _)), by simp <;> omega⟩
theorem setFin {w W w1 : World} {cl : Int} {ad : Addr} {n c n2 c2 : Nat} {A : Option Addr} {rs : List Res} (h : SetAt w W cl ad n c) (hown : w1.ownsRow (w.heap.size + 2) 39 4 (.slice A n2 c2) n2 (ints (flat rs))) (hl : rs.length = n2)
    (hb : ∀ B, B ≤ w.heap.size + 2 → B ≤ W.heap.size → Below B W w1) : SetAt w w1 cl ad n c ∧ FrR w1 (w.heap.size + 2) w1.heap.size (.slice A n2 c2) rs :=
  ⟨h.below (hb _ (Nat.le_refl _) h.sz), FrR.of_own (by rw [hl]; exact hown)⟩
theorem setFin2 {w W w1 : World} {n c p g : Nat} {xs : List Value} {b : Nat} (hown : w1.ownsRow (w.heap.size + 2) 39 4 (.slice (some ⟨g, 0, none⟩) n c) n xs) (hg : W.grownBy w1 (some b)) (hp : W.heap[p]? = some (.cells #[.int .i64 0, .slice none 0 0] 25 (0, 0)) ∧ p < W.heap.size) (hne : p ≠ b) :
    w1.cell? ⟨p, 0, none⟩ = some (.int .i64 0) ∧ w1.cell? ⟨p, 1, none⟩ = some (.slice none 0 0) ∧ w1.frozen? ⟨p, 0, none⟩ = false ∧ w1.frozen? ⟨p, 1, none⟩ = false ∧ p ≠ g ∧ p < w1.heap.size := by
  have h := (hg.block p hp.2 (by intro h; injection h with h; exact hne h)).trans hp.1
  exact ⟨by simp [World.cell?, h], by simp [World.cell?, h], by simp [World.frozen?, h], by simp [World.frozen?, h], ownNe hown h, Nat.lt_of_lt_of_le hp.2 hg.size⟩
theorem FrR.tight {w : World} {lo hi n c g : Nat} {rs : List Res} (h : FrR w lo hi (.slice (some ⟨g, 0, none⟩) n c) rs) : FrR w g (g + 1) (.slice (some ⟨g, 0, none⟩) n c) rs := by
  obtain ⟨⟨h1, h2⟩, h3, h4⟩ := h
  have h5 := h3 g rfl
  refine ⟨⟨h1, ?_⟩, fun k hk => by simp [Value.ownBlock] at hk; omega, by omega⟩
  rcases h2 with h2 | ⟨g', cap, cur, e, _, h6⟩
  · exact .inl h2
  · refine .inr ⟨g', cap, cur, e, ?_, h6⟩
    injection e with e _ _
    injection e with e
    injection e with e _ _
    omega
/-- What stands behind the region of l27Set. -/
def SetMid (w wx : World) (x : LeagueV) (ad : Addr) (c p g c2 : Nat) : Prop :=
  FrR wx (w.heap.size + 2) wx.heap.size (.slice (some ⟨g, 0, none⟩) x.results.length c2) x.results ∧ x.results.length ≤ c2 ∧ c2 ≤ maxLen ∧
    wx.cell? ⟨p, 0, none⟩ = some (.int .i64 x.clubs) ∧ wx.cell? ⟨p, 1, none⟩ = some (.slice (some ⟨g, 0, none⟩) x.results.length c2) ∧ SetAt w wx x.clubs ad x.results.length c
theorem setMid_new {w w1 : World} {x : LeagueV} {ad : Addr} {c g c2 : Nat} (h1 : FrR w1 (w.heap.size + 2) w1.heap.size (.slice (some ⟨g, 0, none⟩) x.results.length c2) x.results) (h2 : x.results.length ≤ c2) (h3 : c2 ≤ maxLen) (h4 : SetAt w w1 x.clubs ad x.results.length c) :
    SetMid w (w1.alloc (.cells #[.int .i64 x.clubs, .slice (some ⟨g, 0, none⟩) x.results.length c2] 25)) x ad c w1.heap.size g c2 :=
  ⟨(h1.grow ((Below.refl _ w1).alloc (Nat.le_refl _) _)).wide (Nat.le_refl _) (by simp) (Nat.le_refl _), h2, h3, by simp [go_sem], by simp [go_sem], h4.below ((Below.refl _ w1).alloc h4.sz _)⟩
theorem setMid_put {w w1 : World} {x : LeagueV} {ad : Addr} {c g c2 p : Nat} (h1 : FrR w1 (w.heap.size + 2) w1.heap.size (.slice (some ⟨g, 0, none⟩) x.results.length c2) x.results) (h2 : x.results.length ≤ c2) (h3 : c2 ≤ maxLen) (h4 : SetAt w w1 x.clubs ad x.results.length c)
    (hp : w.heap.size + 2 ≤ p) (_hlt : p < w1.heap.size) (hne : p ≠ g) (hlo : w.heap.size + 2 ≤ g) (p0 : w1.cell? ⟨p, 0, none⟩ = some (.int .i64 0)) (p1 : w1.cell? ⟨p, 1, none⟩ = some (.slice none 0 0)) :
    SetMid w ((w1.setCell ⟨p, 0, none⟩ (.int .i64 x.clubs)).setCell ⟨p, 1, none⟩ (.slice (some ⟨g, 0, none⟩) x.results.length c2)) x ad c p g c2 := by
  have kp : Keep p (p + 1) w1 ((w1.setCell ⟨p, 0, none⟩ (.int .i64 x.clubs)).setCell ⟨p, 1, none⟩ (.slice (some ⟨g, 0, none⟩) x.results.length c2)) :=
    ((Keep.refl _ _ _).setCell (p := ⟨p, 0, none⟩) (Nat.le_refl _) (Nat.lt_succ_self _) _).setCell (p := ⟨p, 1, none⟩) (Nat.le_refl _) (Nat.lt_succ_self _) _
  have hsz := kp.size
  have hg := h1.2.1 g rfl
  exact ⟨(h1.tight.keep kp (by omega)).wide hlo (by omega) (Nat.le_refl _), h2, h3, by simp [go_sem, p0], by simp [go_sem, p1], h4.below ((kp.below (B := w.heap.size + 2) hp h4.sz).mono (Nat.le_refl _))⟩
theorem slR_drew {w : World} {A : Option Addr} {rs : List Res} (h : SlR w A rs) : SlR w.drew A rs := h

theorem replQ_len (x : LeagueV) (i z u : Int) : (replQ x i z u).results.length = x.results.length := by simp [replQ]
theorem replF_len {x : LeagueV} {i z u : Int} (h : x.results.length ≤ 1048576) : (replF x i z u).results.length ≤ 1048576 := by
  unfold replF
  split
  · rw [replQ_len]; exact h
  · simp
end Go.Proofs.Ythlkhmbndaecfaa
