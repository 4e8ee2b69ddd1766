/- Corrected leagues: the contracts that the law FnCorrections calls, at one valid league. -/
import Derived.Test.YthlkhmbndaecfaaFcr
import Derived.Test.YthlkhmbndaecfaaFcs
import Derived.Test.YthlkhmbndaecfaaLd
import Derived.Test.YthlkhmbndaecfaaLc
import Derived.Test.YthlkhmbndaecfaaMv
import Derived.Test.YthlkhmbndaecfaaOg
import Derived.Test.YthlkhmbndaecfaaRe
import Derived.Test.YthlkhmbndaecfaaForf
import Derived.Test.YthlkhmbndaecfaaCb
import Derived.Test.YthlkhmbndaecfaaRmk
namespace Go.Proofs.Ythlkhmbndaecfaa
open Go.ChangeShapes Go.WideShapes Go.ChangeAt Go.RowKit

/-- A row of a known length, with its cells. -/
def RowAt (W : World) (A : Option Addr) (k c : Nat) (xs : List Int) : Prop := xs.length = k ∧ k ≤ c ∧ c ≤ 2 ^ 63 - 1 ∧ SlI W A xs
theorem RowAt.below {w w' : World} {A : Option Addr} {k c : Nat} {xs : List Int} (h : RowAt w A k c xs) (hb : Below w.heap.size w w') : RowAt w' A k c xs := ⟨h.1, h.2.1, h.2.2.1, h.2.2.2.below hb⟩
theorem RowAt.in_ {w : World} {A : Option Addr} {k c : Nat} {xs : List Int} (h : RowAt w A k c xs) : InI w (.slice A k c) xs := by
  obtain ⟨rfl, h2, h3, h4⟩ := h
  exact ⟨A, c, rfl, h2, h3, h4⟩
theorem RowAt.some_ {w : World} {A : Option Addr} {k c : Nat} {xs : List Int} (h : RowAt w A k c xs) (h0 : 0 < k) : ∃ b o, A = some ⟨b, o, none⟩ ∧ ∀ j x, xs[j]? = some x → w.cell? ⟨b, o + j, none⟩ = some (.int .i64 x) := by
  rcases h.2.2.2 with rfl | ⟨b, o, e, hc⟩
  · have := h.1; simp at this; omega
  · exact ⟨b, o, e, hc⟩
theorem rowAt_of {w : World} {lo hi k : Nat} {v : Value} {xs : List Int} (h : Fr w lo hi v xs) (hk : xs.length = k) : ∃ A c, v = .slice A k c ∧ RowAt w A k c xs := by
  subst hk
  obtain ⟨A, c, rfl, h1, h2⟩ := h.form
  exact ⟨A, c, rfl, rfl, h1, h2, h.sl⟩
/-- The contracts at the league x = (n, rs), whose value va lies in the world W0. -/
structure FxC (W0 : World) (va : Value) (n m : Nat) (rs : List Res) : Prop where
  cLead : ∀ W, Below W0.heap.size W0 W → Calls Try.prog 5 #[va] W fun e w' => ∃ A c, e = .returned (.slice A (m + 1) c) ∧ RowAt w' A (m + 1) c (leadF ⟨(n : Int), rs⟩) ∧ Below W.heap.size W w'
  cAft : ∀ W, Below W0.heap.size W0 W → Calls Try.prog 6 #[va, .int .i64 (m : Int)] W fun e w' => ∃ A c, e = .returned (.slice A n c) ∧ RowAt w' A n c (tableF n rs) ∧ Below W.heap.size W w'
  cTab : ∀ W, Below W0.heap.size W0 W → Calls Try.prog 9 #[va] W fun e w' => ∃ A c, e = .returned (.slice A n c) ∧ RowAt w' A n c (tableF n rs) ∧ Below W.heap.size W w'
  cOff : ∀ W vo, Below W0.heap.size W0 W → InI W vo (List.replicate n 0) → Calls Try.prog 7 #[va, vo] W fun e w' => ∃ A c, e = .returned (.slice A n c) ∧ RowAt w' A n c (tableF n rs) ∧ Below W.heap.size W w'
  cMov : ∀ W, Below W0.heap.size W0 W → Calls Try.prog 10 #[va, va] W fun e w' => e = .returned (.int .i64 0) ∧ Below W.heap.size W w'
  cPla : ∀ W (a : Nat), Below W0.heap.size W0 W → a < n → Calls Try.prog 11 #[va, .int .i64 (a : Int)] W fun e w' => ∃ A c, e = .returned (.slice A (m + 1) c) ∧ RowAt w' A (m + 1) c (placeF ⟨(n : Int), rs⟩ (a : Int)) ∧ Below W.heap.size W w'
  cChg : ∀ W, Below W0.heap.size W0 W → Calls Try.prog 12 #[va] W fun e w' => e = .returned (.int .i64 (diffs (leadF ⟨(n : Int), rs⟩) m : Nat)) ∧ Below W.heap.size W w'
  cPts : ∀ W, Below W0.heap.size W0 W → Calls Try.prog 19 #[va] W fun e w' => ∃ A c, e = .returned (.slice A n c) ∧ RowAt w' A n c (ptsF n rs) ∧ Below W.heap.size W w'
  cOk : ∀ W, Below W0.heap.size W0 W → Calls Try.prog 14 #[va] W fun e w' => e = .returned (.bool true) ∧ Below W.heap.size W w'
theorem FxC.mono {W0 W1 : World} {va : Value} {n m : Nat} {rs : List Res} (h : FxC W0 va n m rs) (hb : Below W0.heap.size W0 W1) : FxC W1 va n m rs := by
  have ht : ∀ W, Below W1.heap.size W1 W → Below W0.heap.size W0 W := fun W hW => hb.trans (hW.mono hb.size)
  exact ⟨fun W hW => h.cLead W (ht W hW), fun W hW => h.cAft W (ht W hW), fun W hW => h.cTab W (ht W hW), fun W vo hW hi => h.cOff W vo (ht W hW) hi, fun W hW => h.cMov W (ht W hW), fun W a hW ha => h.cPla W a (ht W hW) ha, fun W hW => h.cChg W (ht W hW), fun W hW => h.cPts W (ht W hW), fun W hW => h.cOk W (ht W hW)⟩
theorem wf_nat {k : Nat} (h : k ≤ 1048576) : (Lit.int .i64 (k : Int)).wf = true := by
  have h1 : IntKind.i64.min ≤ (k : Int) := Int.le_trans (show IntKind.i64.min ≤ 0 by decide) (by omega)
  have h2 : (k : Int) ≤ IntKind.i64.max := Int.le_trans (show (k : Int) ≤ 1048576 by omega) (by decide)
  simp [Lit.wf, h1]; omega
theorem fxC_of {W0 : World} {A : Option Addr} {c n m : Nat} {rs : List Res} (hx : Lx ⟨(n : Int), rs⟩ n m) (hi : InL W0 (.agg #[.int .i64 (n : Int), .slice A m c]) ⟨(n : Int), rs⟩) :
    FxC W0 (.agg #[.int .i64 (n : Int), .slice A m c]) n m rs := by
  have hm : rs.length = m := hx.len
  have hbd := hx.bd
  have h60 : (⟨(n : Int), rs⟩ : LeagueV).results.length ≤ 1048576 := by show rs.length ≤ _; omega
  have hI : ∀ W, Below W0.heap.size W0 W → InL W (.agg #[.int .i64 (n : Int), .slice A m c]) ⟨(n : Int), rs⟩ := fun W hW => hi.below hW
  have hT : (tableF n rs).length = n := tableF_length n rs
  refine ⟨?_, ?_, ?_, ?_, ?_, ?_, ?_, ?_, ?_⟩
  · intro W hW
    refine (implLeadersOf_std _ _ W (hI W hW) h60).mono ?_
    rintro e w' ⟨v, rfl, hf, hb⟩
    rw [show leadersF ⟨(n : Int), rs⟩ = leadF ⟨(n : Int), rs⟩ from if_pos hx.ok] at hf
    obtain ⟨A', c', rfl, hr⟩ := rowAt_of (k := m + 1) hf (by rw [leadF_length]; exact congrArg (· + 1) hm)
    exact ⟨A', c', rfl, hr, hb⟩
  · intro W hW
    refine (implTableAfter_std _ _ (m : Int) W (hI W hW) h60 (wf_nat (by omega))).mono ?_
    rintro e w' ⟨v, rfl, hf, hb⟩
    rw [hx.after] at hf
    obtain ⟨A', c', rfl, hr⟩ := rowAt_of hf hT
    exact ⟨A', c', rfl, hr, hb⟩
  · intro W hW
    refine (implTableOf_any _ _ W (hI W hW)).mono ?_
    rintro e w' ⟨v, rfl, hf, hb⟩
    rw [hx.tab] at hf
    obtain ⟨A', c', rfl, hr⟩ := rowAt_of hf hT
    exact ⟨A', c', rfl, hr, hb⟩
  · intro W vo hW ho
    refine (implPointsOff_std _ _ vo _ W (hI W hW) h60 ho (by rw [List.length_replicate]; omega)).mono ?_
    rintro e w' ⟨v, rfl, hf, hb⟩
    rw [hx.off] at hf
    obtain ⟨A', c', rfl, hr⟩ := rowAt_of hf hT
    exact ⟨A', c', rfl, hr, hb⟩
  · intro W hW
    have h := implMovedClubs_std _ _ _ _ W (hI W hW) h60 (hI W hW) h60
    rw [hx.moved] at h; exact h
  · intro W a hW ha
    refine (implPlacesIn_std _ _ (a : Int) W (hI W hW) h60 (wf_nat (by omega))).mono ?_
    rintro e w' ⟨v, rfl, hf, hb⟩
    rw [hx.places ha] at hf
    obtain ⟨A', c', rfl, hr⟩ := rowAt_of (k := m + 1) hf (by rw [placeF_length]; exact congrArg (· + 1) hm)
    exact ⟨A', c', rfl, hr, hb⟩
  · intro W hW
    have h := implLeadChanges_std _ _ W (hI W hW) h60
    rw [changes_diffs hx.ok, show (⟨(n : Int), rs⟩ : LeagueV).results.length = m from hm] at h; exact h
  · intro W hW
    have h := implPointsOf_okB A c ⟨(n : Int), rs⟩ W (by have := hI W hW; rw [show (⟨(n : Int), rs⟩ : LeagueV).results.length = m from hm]; exact this) hx.ok
    rw [show (⟨(n : Int), rs⟩ : LeagueV).results.length = m from hm] at h
    refine h.mono ?_
    rintro e w' ⟨v, rfl, hf, hb⟩
    rw [show (⟨(n : Int), rs⟩ : LeagueV).clubs.toNat = n from Int.toNat_natCast n] at hf
    obtain ⟨A', c', rfl, hr⟩ := rowAt_of hf (ptsF_length n rs)
    exact ⟨A', c', rfl, hr, hb⟩
  · intro W hW
    have h := implLeagueOk_any _ _ W (hI W hW)
    rw [hx.ok] at h; exact h

theorem cell_blk {W : World} {b k : Nat} {a : Array Value} {t : TypeId} {fr : Nat × Nat} (h : W.heap[b]? = some (.cells a t fr)) : W.cell? ⟨b, k, none⟩ = a[k]? := by simp [World.cell?, h]
theorem inL_sl {W : World} {n m c : Nat} {A : Option Addr} {rs : List Res} (h : InL W (.agg #[.int .i64 (n : Int), .slice A m c]) ⟨(n : Int), rs⟩) : rs.length = m ∧ m ≤ c ∧ c ≤ 2 ^ 63 - 1 ∧ SlR W A rs := by
  obtain ⟨A', c', e, h1, h2, h3, -⟩ := h
  injection e with e; injection e with e; injection e with _ e; injection e with e; injection e with e1 e2 e3
  subst e1; subst e2; subst e3
  exact ⟨rfl, h1, h2, h3⟩
theorem xs_ow {w W' : World} {lo hi n m : Nat} {v : Value} {rs : List Res} (h : OwL W' lo hi v ⟨(n : Int), rs⟩) (hl : rs.length = m) (hb : Below w.heap.size w W') :
    ∃ A c, v = .agg #[.int .i64 (n : Int), .slice A m c] ∧ (m ≤ c ∧ c ≤ 2 ^ 63 - 1) ∧ XS w (W'.alloc (.cells #[.int .i64 (n : Int), .slice A m c] 25)) W'.heap.size n A m c rs := by
  subst hl
  have hi := h.in_
  obtain ⟨A, c, rfl⟩ := h.form
  have h2 := inL_sl hi
  exact ⟨A, c, rfl, ⟨h2.2.1, h2.2.2.1⟩, xS_new hi hb⟩
/-- A result that lies in a box of its own. -/
def RB (W : World) (b : Nat) (r : Res) : Prop := W.heap[b]? = some (.cells #[.int .i64 r.h, .int .i64 r.a, .int .i64 r.g, .int .i64 r.t] 39 (0, 0))
theorem RB.grow {W W' : World} {b : Nat} {r : Res} (h : RB W b r) (hb : Below W.heap.size W W') : RB W' b r := (hb.block _ (Array.getElem?_eq_some_iff.1 h).1).trans h
theorem RB.cells {W : World} {b : Nat} {r : Res} (h : RB W b r) : W.cell? ⟨b, 0, none⟩ = some (.int .i64 r.h) ∧ W.cell? ⟨b, 1, none⟩ = some (.int .i64 r.a) ∧ W.cell? ⟨b, 2, none⟩ = some (.int .i64 r.g) ∧ W.cell? ⟨b, 3, none⟩ = some (.int .i64 r.t) := by
  unfold RB at h
  refine ⟨?_, ?_, ?_, ?_⟩ <;> simp [World.cell?, h]
theorem rb_new (W : World) (r : Res) : RB (W.alloc (.cells #[.int .i64 r.h, .int .i64 r.a, .int .i64 r.g, .int .i64 r.t] 39)) W.heap.size r := World.alloc_heap_new W _
/-- Two rows of three numbers in a row of rows. -/
theorem inS_two (V0 : World) (a0 a1 a2 b0 b1 b2 : Int) :
    InS (((V0.alloc (.cells #[.int .i64 a0, .int .i64 a1, .int .i64 a2] 3)).alloc (.cells #[.int .i64 b0, .int .i64 b1, .int .i64 b2] 3)).alloc (.cells #[.slice (some ⟨V0.heap.size, 0, none⟩) 3 3, .slice (some ⟨V0.heap.size + 1, 0, none⟩) 3 3] 27))
      (.slice (some ⟨V0.heap.size + 2, 0, none⟩) 2 2) [[a0, a1, a2], [b0, b1, b2]] := by
  have lit : ∀ (V : World) (x y z : Int), InI (V.alloc (.cells #[.int .i64 x, .int .i64 y, .int .i64 z] 3)) (.slice (some ⟨V.heap.size, 0, none⟩) 3 3) [x, y, z] := fun V x y z => by
    refine ⟨some ⟨V.heap.size, 0, none⟩, 3, rfl, Nat.le_refl _, by unfold maxLen; omega, .inr ⟨_, _, rfl, fun k q h => ?_⟩⟩
    have hn := World.alloc_heap_new V (.cells #[.int .i64 x, .int .i64 y, .int .i64 z] 3)
    rcases k with _ | _ | _ | k
    · simp only [List.getElem?_cons_zero, Option.some.injEq] at h; subst h; rw [cell_blk hn]; rfl
    · simp only [List.getElem?_cons_succ, List.getElem?_cons_zero, Option.some.injEq] at h; subst h; rw [cell_blk hn]; rfl
    · simp only [List.getElem?_cons_succ, List.getElem?_cons_zero, Option.some.injEq] at h; subst h; rw [cell_blk hn]; rfl
    · simp at h
  obtain ⟨V1, e1⟩ : ∃ V1, V0.alloc (.cells #[.int .i64 a0, .int .i64 a1, .int .i64 a2] 3) = V1 := ⟨_, rfl⟩
  have z1 : V1.heap.size = V0.heap.size + 1 := by rw [← e1, World.size_alloc]
  have l0 := lit V0 a0 a1 a2
  rw [e1] at l0 ⊢
  have l1 := lit V1 b0 b1 b2
  rw [z1] at l1
  have g1 : Below V1.heap.size V1 (V1.alloc (.cells #[.int .i64 b0, .int .i64 b1, .int .i64 b2] 3)) := (Below.refl _ _).alloc (Nat.le_refl _) _
  replace l0 := l0.below g1
  obtain ⟨V2, e2⟩ : ∃ V2, V1.alloc (.cells #[.int .i64 b0, .int .i64 b1, .int .i64 b2] 3) = V2 := ⟨_, rfl⟩
  have z2 : V2.heap.size = V0.heap.size + 2 := by rw [← e2, World.size_alloc, z1]
  rw [e2] at l0 l1 ⊢
  have g2 : Below V2.heap.size V2 (V2.alloc (.cells #[.slice (some ⟨V0.heap.size, 0, none⟩) 3 3, .slice (some ⟨V0.heap.size + 1, 0, none⟩) 3 3] 27)) := (Below.refl _ _).alloc (Nat.le_refl _) _
  replace l0 := l0.below g2
  replace l1 := l1.below g2
  have hn := World.alloc_heap_new V2 (.cells #[.slice (some ⟨V0.heap.size, 0, none⟩) 3 3, .slice (some ⟨V0.heap.size + 1, 0, none⟩) 3 3] 27)
  rw [z2] at hn
  refine ⟨_, 2, [.slice (some ⟨V0.heap.size, 0, none⟩) 3 3, .slice (some ⟨V0.heap.size + 1, 0, none⟩) 3 3], rfl, rfl, Nat.le_refl _, by unfold maxLen; omega, .inr ⟨_, _, rfl, fun k q h => ?_⟩, fun k u xs h1 h2 => ?_⟩
  · rcases k with _ | _ | k
    · simp only [List.getElem?_cons_zero, Option.some.injEq] at h; subst h; rw [cell_blk hn]; rfl
    · simp only [List.getElem?_cons_succ, List.getElem?_cons_zero, Option.some.injEq] at h; subst h; rw [cell_blk hn]; rfl
    · simp at h
  · rcases k with _ | _ | k
    · simp only [List.getElem?_cons_zero, Option.some.injEq] at h1 h2; subst h1; subst h2; exact l0
    · simp only [List.getElem?_cons_succ, List.getElem?_cons_zero, Option.some.injEq] at h1 h2; subst h1; subst h2; exact l1
    · simp at h1
end Go.Proofs.Ythlkhmbndaecfaa
