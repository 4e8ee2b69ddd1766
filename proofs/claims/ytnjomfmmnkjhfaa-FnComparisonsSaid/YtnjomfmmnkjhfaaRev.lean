/- slices.Reverse at a row of integers of the call's own. -/
import Derived.Test.YtnjomfmmnkjhfaaUp
import Derived.Deep.QuietTactic
import Derived.BigQuiet
namespace Go.Proofs.Ytnjomfmmnkjhfaa
open Go.ChangeShapes Go.WideShapes Go.ChangeAt Go.RowKit

theorem reverseI_any (g n c lo hi i : Nat) (c2 : Nat) (xs : List Int) (w : World) (hn : n = xs.length) (hnn : xs.length ≤ 1048576) (hf : Fr w lo hi (.slice (some ⟨g, 0, none⟩) n c) xs) (hi' : i ≤ n) :
    Calls Try.prog 40 #[.slice (some ⟨g, i, none⟩) (n - i) c2] w fun e w' => e = .returned (.tuple #[]) ∧ Fr w' lo hi (.slice (some ⟨g, 0, none⟩) n c) (xs.take i ++ (xs.drop i).reverse) ∧ Keep lo hi w w' := by
  obtain ⟨A', c', he, hc, hm⟩ := hf.form
  injection he with h1 h2 h3
  subst h1; subst h3; subst hn
  have hgh : g < hi := hf.2.1 g rfl
  have hlog : lo ≤ g := (hf.1.lt g rfl).1
  obtain ⟨us, hul, hut, _, hfull⟩ := own_full hf.1
  have hdl : (xs.drop i).length = xs.length - i := List.length_drop
  have h := Try.slices_Reverse_int_cells g i (xs.length - i) c2 (xs.drop i) w (by omega) (by omega) ?_ ?_
  · refine h.mono ?_
    rintro e w' ⟨rfl, q, rfl⟩
    have hz := own_setCells (((xs.drop i).take (xs.length - i)).reverse.map (Value.int .i64)) i (w.drewN q) us hfull (by simp; omega)
    have hk : Keep lo hi w ((w.drewN q).setCells g i (((xs.drop i).take (xs.length - i)).reverse.map (Value.int .i64))) := ((Keep.refl lo hi w).drewN q).trans (hz.2.wide hlog (by omega))
    refine ⟨rfl, ⟨?_, fun g' hg' => ?_, Nat.le_trans hf.2.2 hk.size⟩, hk⟩
    · have hcut := own_cut hz.1 (k := xs.length) hc
      have e : (us.take i ++ ((xs.drop i).take (xs.length - i)).reverse.map (Value.int .i64) ++ us.drop (i + (((xs.drop i).take (xs.length - i)).reverse.map (Value.int .i64)).length)).take xs.length = ints (xs.take i ++ (xs.drop i).reverse) := by
        rw [List.take_of_length_le (l := xs.drop i) (by omega)]
        rw [List.take_left' (by simp; omega)]
        have e1 : us.take i = ints (xs.take i) := by
          have : (us.take xs.length).take i = us.take i := by rw [List.take_take]; congr 1; omega
          rw [← this, hut]; simp [ints, List.map_take]
        rw [e1]; simp [ints]
      rw [e] at hcut
      rw [show (xs.take i ++ (xs.drop i).reverse).length = xs.length from by simp; omega]
      exact hcut
    · simp only [Value.ownBlock, Option.some.injEq] at hg'; omega
  · intro j hj
    rw [hf.1.cellAt (i + j) (by simp; omega)]
    have e : (xs.drop i).getD j 0 = xs[i + j]'(by omega) := by
      rw [List.getD_eq_getElem?_getD, List.getElem?_drop, List.getElem?_eq_getElem (by omega)]; rfl
    rw [e]
    exact ints_get (List.getElem?_eq_getElem (by omega))
  · intro j _
    exact hf.1.frozenAt (i + j)
end Go.Proofs.Ytnjomfmmnkjhfaa
