/- Brackets: the walks. -/
import Derived.Test.YtklhplifceedeaaDoorBr
import Derived.Test.YtklhplifceedeaaDoorTq
import Derived.Test.YtklhplifceedeaaDoorTs
import Derived.Test.YtklhplifceedeaaDoorOrd
import Derived.Test.YtklhplifceedeaaDoorCu
import Derived.Test.YtklhplifceedeaaDoorQt
import Derived.Deep.RegionHeld3
namespace Go.Proofs.YtklhplifceedeaaDoor
open Go.ChangeShapes Go.WideShapes Go.ChangeAt Go.RowKit

set_option maxHeartbeats 800000 in
theorem slicesMax_any (A : Option Addr) (c : Nat) (xs : List Int) (w : World) (hs : SlI w A xs) (h0 : 0 < xs.length) (hn : xs.length ≤ 1048576) :
    Calls Tryd.prog 49 #[.slice A xs.length c] w fun e w' => e = .returned (.int .i64 (maxTo xs (xs.length - 1))) ∧ w = w' := by
  obtain ⟨b, off, x0, rfl, hx0, hc0, -⟩ := hs.at_ h0
  rw [Nat.add_zero] at hc0
  have HS := Lib.hid hs
  have H0 : Hid (maxTo xs 0 = x0) := getD_of hx0
  generalize hl : xs.length = n at *
  have HL := Lib.hid hl
  clear hl hs hx0
  go_enter Tryd.func49, Tryd.ntmps49
  go_wp2
  go_loop [3, 4] (fun m i => ∃ q : Nat, 1 ≤ q ∧ q ≤ n ∧ i = .int .i64 q ∧ m = .int .i64 (maxTo xs (q - 1))) (fun _ i => n - (intOf i).toNat)
  case atStart => exact ⟨1, Nat.le_refl _, h0, rfl, by rw [show 1 - 1 = 0 from rfl, H0.out]⟩
  case round =>
    obtain ⟨q, hq1, hq, rfl, rfl⟩ := hrel
    by_cases hlt : q < n
    · obtain ⟨b', off', y, e, hy, hcy, -⟩ := HS.out.at_ (k := q) (by rw [HL.out]; exact hlt)
      injection e with e; injection e with r1 r2 _; subst r1; subst r2
      have HN : Hid (maxTo xs (q + 1 - 1) = if maxTo xs (q - 1) < y then y else maxTo xs (q - 1)) := by
        show _ = _
        obtain ⟨j, rfl⟩ : ∃ j, q = j + 1 := ⟨q - 1, by omega⟩
        rw [show j + 1 + 1 - 1 = j + 1 from rfl, show j + 1 - 1 = j from rfl, maxTo, getD_of hy]
      clear hy
      generalize maxTo xs (q - 1) = M at *
      by_cases hm : M < y
      · have HN2 : Hid (maxTo xs (q + 1 - 1) = y) := by show _ = _; rw [HN.out, if_pos hm]
        go_wp2
        go_round
        case rel => exact ⟨q + 1, by omega, by omega, by go_num, by rw [HN2.out]; exact congrArg (Value.int .i64) (by omega)⟩
        case measure => simp [intOf]; omega
      · have HN2 : Hid (maxTo xs (q + 1 - 1) = M) := by show _ = _; rw [HN.out, if_neg hm]
        go_wp2
        go_round
        case rel => exact ⟨q + 1, by omega, by omega, by go_num, by rw [HN2.out]; exact congrArg (Value.int .i64) (by omega)⟩
        case measure => simp [intOf]; omega
    · obtain rfl : q = n := by omega
      go_wp2
      go_ret
      exact ⟨rfl, rfl⟩

set_option maxRecDepth 100000 in
/-- 'append(out, x)' as a step of a region that draws: what the run gives. -/
theorem stepAppI {ops : Array Oper} {o : Oper} {a : Act} {w : World} {K : Act → World → Prop} {Q : Exit → Act → World → Prop} {E : Prop} (hgd : o.guard = none) (s y : Operand)
    (ho : o.op = .call { callee := .builtin .append, args := #[s, y], argTypes := #[22, 22] })
    (base : Nat) (v : Value) (n : Nat) (xs : List Int) (hs : a.eval s = v) (hown : w.ownsRow base 3 1 v n (ints xs)) (ad : Addr) (x : Int)
    (hx : a.eval y = .slice (some ad) 1 1) (hu : w.cell? ad = some (.int .i64 x)) (hl : n ≤ 1048576) (hbase : base ≤ w.heap.size)
    (h : ∀ v' w', w'.ownsRow base 3 1 v' (n + 1) (ints (xs ++ [x])) → w.grownBy w' v.ownBlock → K (a.put o.dst v') w') :
    if Region.wanted o (yielded ops a.tmps) = true then Oper.wp Tryd.prog o a w K Q else E := by
  obtain ⟨i0, hi, hz0, hz1, hz2⟩ := info_parts infoInt
  have hw : Region.wanted o (yielded ops a.tmps) = true := by simp [Region.wanted, hgd]
  rw [if_pos hw]
  obtain ⟨v', w', hrun, r1, r2, _⟩ := run_append_own (P := Tryd.prog) w base 22 o.type 3 i0 _ 1 8 Tryd.underlying22 hi hz0 hz1 hz2 rfl (by decide) v n (ints xs) hown ad 1 1 [.int .i64 x] rfl (by
    intro j u hj
    match j, hj with
    | 0, hj => simp at hj; subst hj; simpa [Addr.add] using hu) (by intro u hu; simp at hu; subst hu; rfl) (by unfold maxLen; omega) (by omega) hbase
  unfold Oper.wp
  simp [execOp, ho, resolve, invoke, builtin, hs, hx, hrun, Result.andThen]
  exact h v' w' (by rw [ints_append]; exact r1) r2
end Go.Proofs.YtklhplifceedeaaDoor
