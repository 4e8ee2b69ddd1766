/- Settling a ladder by a tour: the implementation's contract. -/
import Derived.Test.YtbipjmaeclgldaaDoorSd
import Derived.Test.YtbipjmaeclgldaaDoorTq
import Derived.Test.YtbipjmaeclgldaaDoorRo
import Derived.Deep.LoopGhost
namespace Go.Proofs.YtbipjmaeclgldaaDoor
open Go.ChangeShapes Go.WideShapes Go.ChangeAt Go.RowKit

/-- A slice of integers that is read while rows are built: its block is old, or a block of integers. -/
def Rd (w : World) (B : Nat) (A : Option Addr) (n c : Nat) (xs : List Int) : Prop :=
  xs.length = n ∧ n ≤ c ∧ c ≤ maxLen ∧ SlI w A xs ∧ ∀ b off, A = some ⟨b, off, none⟩ → b < w.heap.size ∧ (b < B ∨ ∃ cur, w.heap[b]? = some (.cells cur 3 (0, 0)))
theorem Rd.of_fr {w : World} {B lo hi n c : Nat} {A : Option Addr} {xs : List Int} (h : Fr w lo hi (.slice A n c) xs) : Rd w B A n c xs := by
  obtain ⟨A', c', e, h1, h2⟩ := h.form
  injection e with e1 e2 e3
  subst e1; subst e2; subst e3
  refine ⟨rfl, h1, h2, h.sl, fun b off hA => ?_⟩
  subst hA
  rcases h.1.2 with ⟨e, _⟩ | ⟨g, cap, cur, e, _, h5, _⟩
  · cases e
  · injection e with e _ _
    injection e with e
    injection e with e _ _
    subst e
    exact ⟨(Array.getElem?_eq_some_iff.1 h5).1, .inr ⟨cur, h5⟩⟩
theorem Rd.below {w w' : World} {B n c : Nat} {A : Option Addr} {xs : List Int} (h : Rd w B A n c xs) (hb : Below w.heap.size w w') : Rd w' B A n c xs := by
  obtain ⟨h1, h2, h3, h4, h5⟩ := h
  refine ⟨h1, h2, h3, h4.below hb, fun b off hA => ?_⟩
  obtain ⟨h6, h7⟩ := h5 b off hA
  refine ⟨Nat.lt_of_lt_of_le h6 hb.size, ?_⟩
  rcases h7 with h7 | ⟨cur, h7⟩
  · exact .inl h7
  · exact .inr ⟨cur, by rw [hb.block b h6]; exact h7⟩
theorem Rd.grown {w w' : World} {B lo n c m s : Nat} {A : Option Addr} {xs : List Int} {v : Value} {vs : List Value} (h : Rd w B A n c xs) (hv : w.ownsRow lo 22 s v m vs) (hlo : B ≤ lo) (hg : w.grownBy w' v.ownBlock) : Rd w' B A n c xs := by
  obtain ⟨h1, h2, h3, h4, h5⟩ := h
  have key : ∀ b off, A = some ⟨b, off, none⟩ → w'.heap[b]? = w.heap[b]? := by
    intro b off hA
    obtain ⟨h6, h7⟩ := h5 b off hA
    refine hg.block b h6 fun e => ?_
    rcases h7 with h7 | ⟨cur, h7⟩
    · have := (hv.lt b e.symm).1; omega
    · rcases hv.2 with ⟨rfl, _⟩ | ⟨g2, _, cur2, rfl, _, e2, _⟩
      · cases e
      · simp only [Value.ownBlock, Option.some.injEq] at e
        subst e
        rw [h7] at e2
        injection e2 with e2
        injection e2 with _ e2 _
        exact absurd e2 (by decide)
  refine ⟨h1, h2, h3, ?_, fun b off hA => ?_⟩
  · rcases h4 with h4 | ⟨b, off, rfl, hc⟩
    · exact .inl h4
    · refine .inr ⟨b, off, rfl, fun k y hy => ?_⟩
      rw [World.cell?_of_block (key b off rfl)]
      exact hc k y hy
  · obtain ⟨h6, h7⟩ := h5 b off hA
    refine ⟨Nat.lt_of_lt_of_le h6 hg.size, ?_⟩
    rcases h7 with h7 | ⟨cur, h7⟩
    · exact .inl h7
    · exact .inr ⟨cur, by rw [key b off hA]; exact h7⟩
theorem Rd.drew {w : World} {B n c : Nat} {A : Option Addr} {xs : List Int} (h : Rd w B A n c xs) : Rd w.drew B A n c xs := h
theorem Rd.at_ {w : World} {B n c : Nat} {A : Option Addr} {xs : List Int} (h : Rd w B A n c xs) (h0 : 0 < n) : ∃ b off, A = some ⟨b, off, none⟩ ∧ b < w.heap.size ∧ ∀ k y, xs[k]? = some y → w.cell? ⟨b, off + k, none⟩ = some (.int .i64 y) := by
  obtain ⟨h1, h2, h3, h4, h5⟩ := h
  rcases h4 with h4 | ⟨b, off, rfl, hc⟩
  · rw [h4] at h1; simp at h1; omega
  · exact ⟨b, off, rfl, (h5 b off rfl).1, hc⟩
theorem OwS.wideLo {w : World} {lo lo' hi : Nat} {v : Value} {xss : List (List Int)} (h : OwS w lo hi v xss) (h1 : lo' ≤ lo) : OwS w lo' hi v xss := by
  obtain ⟨vs, hl, ho, h2, h3, h4, h5, h6⟩ := h
  refine ⟨vs, hl, ⟨ho.1, ?_⟩, h2, Nat.le_trans h1 h3, h4, fun k u xs hu hx => (h5 k u xs hu hx).wide h1 (Nat.le_refl _) h4, h6⟩
  rcases ho.2 with h | ⟨g, cap, cur, rfl, hb, r⟩
  · exact .inl h
  · exact .inr ⟨g, cap, cur, rfl, Nat.le_trans h1 hb, r⟩
theorem Bx.grown {w w' : World} {b lo m s : Nat} {x y v : Value} {vs : List Value} {e : TypeId} (h : Bx w b x y) (hv : w.ownsRow lo e s v m vs) (hlo : b < lo) (hg : w.grownBy w' v.ownBlock) : Bx w' b x y := by
  have hk : w'.heap[b]? = w.heap[b]? := hg.block b h.2.2 fun e => by have := (hv.lt b e.symm).1; omega
  exact ⟨(World.cell?_of_block (a := ⟨b, 0, none⟩) hk).trans h.1, (World.cell?_of_block (a := ⟨b, 1, none⟩) hk).trans h.2.1, Nat.lt_of_lt_of_le h.2.2 hg.size⟩

/-- What stands between two rounds: the ladder as it is, the games so far, the tour's box. -/
structure SetAt2 (w W : World) (x : TourV) (bv cv : Value) (A : Option Addr) (c : Nat) (now : List Int) (vo : Value) (out : List (List Int)) : Prop where
  rd : Rd W w.heap.size A x.wins.length c now
  ow : OwS W (w.heap.size + 1) W.heap.size vo out
  bx : Bx W w.heap.size bv cv
  be : Below w.heap.size w W
theorem settle_push {w W W2 : World} {x : TourV} {bv cv v v' : Value} {A : Option Addr} {c : Nat} {now : List Int} {out : List (List Int)} {vs : List Value} {p q r : Int}
    (hrd : Rd W w.heap.size A x.wins.length c now) (hbx : Bx W w.heap.size bv cv) (hbe : Below w.heap.size w W) (hsz : w.heap.size + 1 ≤ W.heap.size)
    (hl : vs.length = out.length) (hv : W.ownsRow (w.heap.size + 1) 22 1 v out.length vs)
    (hrows : ∀ (k : Nat) (y : Value) (ys : List Int), vs[k]? = some y → out[k]? = some ys → Fr W (w.heap.size + 1) W.heap.size y ys)
    (hap : ∀ (i j : Nat) (y y' : Value), i ≠ j → vs[i]? = some y → vs[j]? = some y' → ∀ g, y.ownBlock = some g → y'.ownBlock ≠ some g)
    (hown : W2.ownsRow (w.heap.size + 1) 22 1 v' (out.length + 1) (vs ++ [.slice (some ⟨W.heap.size, 0, none⟩) 3 3]))
    (hg : (((W.alloc (.cells #[.int .i64 p, .int .i64 q, .int .i64 r] 3)).alloc (.cells #[.slice (some ⟨W.heap.size, 0, none⟩) 3 3] 22)).drew).grownBy W2 v.ownBlock) :
    SetAt2 w W2 x bv cv A c now v' (out ++ [[p, q, r]]) := by
  have b1 : Below W.heap.size W (((W.alloc (.cells #[.int .i64 p, .int .i64 q, .int .i64 r] 3)).alloc (.cells #[.slice (some ⟨W.heap.size, 0, none⟩) 3 3] 22)).drew) :=
    below_drewL (((Below.refl _ W).alloc (Nat.le_refl _) _).alloc (by simp) _)
  have z1 : W.heap.size + 2 = (((W.alloc (.cells #[.int .i64 p, .int .i64 q, .int .i64 r] 3)).alloc (.cells #[.slice (some ⟨W.heap.size, 0, none⟩) 3 3] 22)).drew).heap.size := by simp [World.drew]
  have hrow : Fr (((W.alloc (.cells #[.int .i64 p, .int .i64 q, .int .i64 r] 3)).alloc (.cells #[.slice (some ⟨W.heap.size, 0, none⟩) 3 3] 22)).drew) W.heap.size (((W.alloc (.cells #[.int .i64 p, .int .i64 q, .int .i64 r] 3)).alloc (.cells #[.slice (some ⟨W.heap.size, 0, none⟩) 3 3] 22)).drew).heap.size (.slice (some ⟨W.heap.size, 0, none⟩) 3 3) [p, q, r] := by
    have h := World.ownsRow_lit (base := W.heap.size) (e := 3) (size := 1) W #[.int .i64 p, .int .i64 q, .int .i64 r] 3 (Nat.le_refl _) (by unfold maxLen; omega) rfl
    have h2 : ((W.alloc (.cells #[.int .i64 p, .int .i64 q, .int .i64 r] 3)).alloc (.cells #[.slice (some ⟨W.heap.size, 0, none⟩) 3 3] 22)).ownsRow W.heap.size 3 1 (.slice (some ⟨W.heap.size, 0, none⟩) 3 3) 3 (ints [p, q, r]) := World.ownsRow.alloc h _
    exact Fr.drew (Fr.of_own (xs := [p, q, r]) h2)
  generalize (((W.alloc (.cells #[.int .i64 p, .int .i64 q, .int .i64 r] 3)).alloc (.cells #[.slice (some ⟨W.heap.size, 0, none⟩) 3 3] 22)).drew) = W1 at *
  have hv1 : W1.ownsRow (w.heap.size + 1) 22 1 v out.length vs := by
    refine ⟨hv.1, ?_⟩
    rcases hv.2 with h | ⟨g, cap, cur, rfl, hb, hh, r⟩
    · exact .inl h
    · exact .inr ⟨g, cap, cur, rfl, hb, by rw [b1.block g (Array.getElem?_eq_some_iff.1 hh).1]; exact hh, r⟩
  have hsz1 : W.heap.size ≤ W1.heap.size := b1.size
  refine ⟨(hrd.below b1).grown hv1 (Nat.le_succ _) hg, OwS.push (w := W) hsz hv1 hl (fun k y ys h1 h2 => (hrows k y ys h1 h2).grow b1) hap hrow hsz1 hown hg, (hbx.below b1).grown hv1 (Nat.lt_succ_self _) hg, ?_⟩
  refine (hbe.trans (b1.mono hbe.size)).grown hg (Nat.le_trans hbe.size hsz1) fun k hk => ?_
  have := (hv1.lt k hk).1; omega
end Go.Proofs.YtbipjmaeclgldaaDoor
