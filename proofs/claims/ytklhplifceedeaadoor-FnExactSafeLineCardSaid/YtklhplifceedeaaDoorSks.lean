/- Safe strategies: StrategyOk, IsSafe, l10Safe. -/
import Derived.Test.YtklhplifceedeaaDoorSke
import Derived.Test.YtklhplifceedeaaDoorBs
import Derived.Test.YtklhplifceedeaaDoorMo
import Derived.Test.YtklhplifceedeaaDoorOlt
namespace Go.Proofs.YtklhplifceedeaaDoor
open Go.ChangeShapes Go.WideShapes Go.ChangeAt Go.RowKit

theorem maxTo_pos {l : List Int} : ∀ k, (∃ j, j ≤ k ∧ 0 < l.getD j 0) → 0 < maxTo l k
  | 0, ⟨j, hj, h⟩ => by obtain rfl : j = 0 := by omega
                        exact h
  | k + 1, ⟨j, hj, h⟩ => by
    unfold maxTo
    by_cases e : j = k + 1
    · subst e; split <;> omega
    · have := maxTo_pos k ⟨j, by omega, h⟩
      split <;> omega
set_option maxHeartbeats 2000000 in
set_option maxRecDepth 100000 in
theorem strategyOk_any (v : Value) (x : TourV) (A : Option Addr) (c n : Nat) (ws : List Int) (w : World) (hok : tourB x = true) (hs : InT w v x) (hw : SlI w A ws) (hn : ws.length = n) (hxn : x.wins.length = n) (hr : ∀ y ∈ ws, 0 ≤ y ∧ y ≤ 100000) (hp : ∃ j, j < n ∧ 0 < ws.getD j 0) :
    Calls Tryd.prog 42 #[v, .slice A n c] w fun e w' => e = .returned (.bool true) ∧ Below w.heap.size w w' := by
  have HIT := Lib.hid hs
  have HW := Lib.hid hw
  obtain ⟨u, rfl, B, d, rfl, hd, hm, hts⟩ := hs
  obtain ⟨t1, t2, t3, t4, _⟩ := tourB_t hok
  have HTO : Hid (∀ W, Below w.heap.size w W → Calls Tryd.prog 24 #[.agg #[.int .i64 x.size, .slice B x.wins.length d]] W fun e w' => e = .returned (.bool true) ∧ Below W.heap.size W w') := fun W hW => by
    have h := implTourOk_any _ x W (HIT.out.below hW)
    rwa [hok] at h
  have HAW : Hid (∀ W, Below w.heap.size w W → Calls Tryd.prog 36 #[.slice A n c, .int .i64 0, .int .i64 100000] W fun e w' => e = .returned (.bool true) ∧ Below W.heap.size W w') := fun W hW => by
    have h := allWithin_any A c ws 0 100000 W (HW.out.below hW) (by omega)
    rw [hn, show ws.all (fun x => inB x 0 100000) = true from List.all_eq_true.2 fun y hy => inB_t.2 (hr y hy)] at h
    exact h
  obtain ⟨M, HMX⟩ : ∃ M : Int, Hid (0 < M ∧ ∀ W, Below w.heap.size w W → Calls Tryd.prog 49 #[.slice A n c] W fun e w' => e = .returned (.int .i64 M) ∧ W = w') := ⟨maxTo ws (ws.length - 1), by
    obtain ⟨j, hj, h⟩ := hp
    refine ⟨maxTo_pos _ ⟨j, by omega, h⟩, fun W hW => ?_⟩
    have h2 := slicesMax_any A c ws W (HW.out.below hW) (by omega) (by omega)
    rw [hn] at h2 ⊢
    exact h2⟩
  have H0 : Hid (Bx (w.alloc (.cells #[.int .i64 x.size, .slice B x.wins.length d] 27)) w.heap.size (.int .i64 x.size) (.slice B x.wins.length d) ∧ Below w.heap.size w (w.alloc (.cells #[.int .i64 x.size, .slice B x.wins.length d] 27))) := ⟨⟨by simp, by simp, by simp⟩, (Below.refl _ w).alloc (Nat.le_refl _) _⟩
  have hsz : x.size = (n : Int) := by omega
  rw [hsz] at H0 HTO ⊢
  have hMp := HMX.out.1
  have hMb : decide (M > 0) = true := by simpa using hMp
  clear hok hts hw hr hp t1 t2 t3 t4 hn hxn hsz
  go_enter Tryd.func42, Tryd.ntmps42
  go_wp2_with fail
  refine (HTO.out _ H0.out.2).mono ?_
  rintro e w1 ⟨rfl, hb1⟩
  have H1 : Hid (Bx w1 w.heap.size (.int .i64 (n : Int)) (.slice B x.wins.length d) ∧ Below w.heap.size w w1) := ⟨H0.out.1.below hb1, H0.out.2.trans (hb1.mono H0.out.2.size)⟩
  obtain ⟨q0, q1, -⟩ := id H1.out.1
  clear hb1 H0
  go_wp2_with fail
  refine (HAW.out _ H1.out.2).mono ?_
  rintro e w2 ⟨rfl, hb2⟩
  have H2 : Hid (Below w.heap.size w w2) := H1.out.2.trans (hb2.mono H1.out.2.size)
  clear hb2
  go_wp2_with fail
  refine (HMX.out.2 _ H2.out).mono ?_
  rintro e w3 ⟨rfl, rfl⟩
  go_wp2
  go_ret
  exact ⟨rfl, H2.out⟩

set_option maxHeartbeats 2000000 in
set_option maxRecDepth 100000 in
theorem isSafe_any (v : Value) (x : TourV) (A : Option Addr) (c n : Nat) (ws : List Int) (w : World) (hok : tourB x = true) (hs : InT w v x) (hw : SlI w A ws) (hn : ws.length = n) (hxn : x.wins.length = n) (hr : ∀ y ∈ ws, 0 ≤ y ∧ y ≤ 100000) (hp : ∃ j, j < n ∧ 0 < ws.getD j 0) :
    Calls Tryd.prog 27 #[v, .slice A n c] w fun e w' => e = .returned (.bool (safeB x ws)) ∧ Below w.heap.size w w' := by
  have HIT := Lib.hid hs
  have HW := Lib.hid hw
  have HSO := Lib.hid (fun V (hV : Below w.heap.size w V) => strategyOk_any v x A c n ws V hok (hs.below hV) (hw.below hV) hn hxn hr hp)
  have HBA : Hid (∀ V (b : Nat), Below w.heap.size w V → b < n → Calls Tryd.prog 43 #[v, .slice A n c, .int .i64 (b : Int)] V fun e w' => e = .returned (.int .i64 (balF (bt x.wins) ws b x.wins.length)) ∧ Below V.heap.size V w') := fun V b hV hb => by
    have h := balance_any v x A c ws b V hok (hs.below hV) (hw.below hV) (by omega) (by omega) hr
    rw [hn] at h
    exact h
  obtain ⟨u, rfl, B, d, rfl, hd, hm, hts⟩ := hs
  obtain ⟨t1, t2, t3, t4, _⟩ := tourB_t hok
  have H0 : Hid (Bx (w.alloc (.cells #[.int .i64 x.size, .slice B x.wins.length d] 27)) w.heap.size (.int .i64 x.size) (.slice B x.wins.length d) ∧ Below w.heap.size w (w.alloc (.cells #[.int .i64 x.size, .slice B x.wins.length d] 27))) := ⟨⟨by simp, by simp, by simp⟩, (Below.refl _ w).alloc (Nat.le_refl _) _⟩
  have HSH : Hid (∀ b, b < n → balF (bt x.wins) ws b x.wins.length < 0 → safeB x ws = false) := fun b hb h => safeB_hit (by omega) h
  have HSA : Hid ((∀ b, b < n → 0 ≤ balF (bt x.wins) ws b x.wins.length) → safeB x ws = true) := fun h => safeB_all fun b hb => h b (by omega)
  have HBB : Hid (∀ b, b < n → (balF (bt x.wins) ws b x.wins.length).natAbs ≤ 800000) := fun b hb => by
    have h := balF_abs (B := bt x.wins) (b := b) hr x.wins.length (by omega)
    omega
  obtain ⟨β, hβ⟩ : ∃ β : Nat → Int, ∀ b, balF (bt x.wins) ws b x.wins.length = β b := ⟨_, fun _ => rfl⟩
  simp only [hβ] at HBA HSH HSA HBB
  have hn8 : n ≤ 8 := by omega
  have hsz : x.size = (n : Int) := by omega
  rw [hsz] at H0 HSO HBA ⊢
  generalize safeB x ws = SB at *
  clear hok hts hw hr hp t1 t2 t3 t4 hn hxn hsz hβ
  go_enter Tryd.func27, Tryd.ntmps27
  go_wp2_with fail
  refine (HSO.out _ H0.out.2).mono ?_
  rintro e w1 ⟨rfl, hb1⟩
  have H1 : Hid (Bx w1 w.heap.size (.int .i64 (n : Int)) (.slice B x.wins.length d) ∧ Below w.heap.size w w1) := ⟨H0.out.1.below hb1, H0.out.2.trans (hb1.mono H0.out.2.size)⟩
  obtain ⟨q0, q1, -⟩ := id H1.out.1
  clear hb1 H0
  go_wp2
  clear q0 q1
  go_loopw [12] (fun i wr => ∃ b : Nat, b ≤ n ∧ i = .int .i64 (b : Int) ∧ Hid (Bx wr w.heap.size (.int .i64 (n : Int)) (.slice B x.wins.length d) ∧ Below w.heap.size w wr) ∧ Hid (∀ j, j < b → 0 ≤ β j)) (fun i _ => n - (intOf i).toNat)
  case atStart => exact ⟨0, Nat.zero_le _, rfl, H1.out, fun j hj => by omega⟩
  case round =>
    obtain ⟨b, hb, rfl, HR, HP⟩ := hrel
    clear H1
    obtain ⟨q0, q1, -⟩ := id HR.out.1
    by_cases hlt : b < n
    case neg =>
      obtain rfl : n = b := by omega
      have HT : Hid (SB = true) := HSA.out HP.out
      go_wp2
      go_ret
      exact ⟨ret_bool HT.out.symm, HR.out.2⟩
    have hbb := HBB.out b hlt
    by_cases hneg : β b < 0
    · have HF : Hid (SB = false) := HSH.out b hlt hneg
      go_wp2_with fail
      refine (HBA.out _ b HR.out.2 hlt).mono ?_
      rintro e w5 ⟨rfl, hb5⟩
      have H5 : Hid (Below w.heap.size w w5) := HR.out.2.trans (hb5.mono HR.out.2.size)
      clear hb5
      go_wp2
      go_ret
      exact ⟨ret_bool HF.out.symm, H5.out⟩
    · have HP2 : Hid (∀ j, j < b + 1 → 0 ≤ β j) := fun j hj => by
        rcases Nat.lt_or_ge j b with h | h
        · exact HP.out j h
        · obtain rfl : j = b := by omega
          omega
      go_wp2_with fail
      refine (HBA.out _ b HR.out.2 hlt).mono ?_
      rintro e w5 ⟨rfl, hb5⟩
      have H5 : Hid (Bx w5 w.heap.size (.int .i64 (n : Int)) (.slice B x.wins.length d) ∧ Below w.heap.size w w5) := ⟨HR.out.1.below hb5, HR.out.2.trans (hb5.mono HR.out.2.size)⟩
      clear hb5
      go_wp2
      go_roundw
      case rel => exact ⟨b + 1, by omega, by go_num, H5.out, HP2.out⟩
      case measure => simp [intOf]; omega

set_option maxHeartbeats 2000000 in
set_option maxRecDepth 100000 in
theorem l10Safe_any (v : Value) (x : TourV) (A : Option Addr) (c n : Nat) (ws : List Int) (w : World) (hok : tourB x = true) (hs : InT w v x) (hw : SlI w A ws) (hn : ws.length = n) (hxn : x.wins.length = n) (hr : ∀ y ∈ ws, 0 ≤ y ∧ y ≤ 100000) :
    Calls Tryd.prog 21 #[v, .slice A n c] w fun e w' => e = .returned (.bool (safeB x ws)) ∧ Below w.heap.size w w' := by
  have HIT := Lib.hid hs
  have HW := Lib.hid hw
  have HBA : Hid (∀ V (b : Nat), Below w.heap.size w V → b < n → Calls Tryd.prog 34 #[v, .slice A n c, .int .i64 (b : Int)] V fun e w' => e = .returned (.int .i64 (balF (bt x.wins) ws b x.wins.length)) ∧ Below V.heap.size V w') := fun V b hV hb => by
    have h := l10Balance_any v x A c ws b V hok (hs.below hV) (hw.below hV) (by omega) (by omega) hr
    rw [hn] at h
    exact h
  obtain ⟨u, rfl, B, d, rfl, hd, hm, hts⟩ := hs
  obtain ⟨t1, t2, t3, t4, _⟩ := tourB_t hok
  have H0 : Hid (Bx (w.alloc (.cells #[.int .i64 x.size, .slice B x.wins.length d] 27)) w.heap.size (.int .i64 x.size) (.slice B x.wins.length d) ∧ Below w.heap.size w (w.alloc (.cells #[.int .i64 x.size, .slice B x.wins.length d] 27))) := ⟨⟨by simp, by simp, by simp⟩, (Below.refl _ w).alloc (Nat.le_refl _) _⟩
  have HSH : Hid (∀ b, b < n → balF (bt x.wins) ws b x.wins.length < 0 → safeB x ws = false) := fun b hb h => safeB_hit (by omega) h
  have HSA : Hid ((∀ b, b < n → 0 ≤ balF (bt x.wins) ws b x.wins.length) → safeB x ws = true) := fun h => safeB_all fun b hb => h b (by omega)
  have HBB : Hid (∀ b, b < n → (balF (bt x.wins) ws b x.wins.length).natAbs ≤ 800000) := fun b hb => by
    have h := balF_abs (B := bt x.wins) (b := b) hr x.wins.length (by omega)
    omega
  obtain ⟨β, hβ⟩ : ∃ β : Nat → Int, ∀ b, balF (bt x.wins) ws b x.wins.length = β b := ⟨_, fun _ => rfl⟩
  simp only [hβ] at HBA HSH HSA HBB
  have hn8 : n ≤ 8 := by omega
  generalize safeB x ws = SB at *
  clear hok hts hw hr t1 t2 t3 t4 hn hxn hβ
  go_enter Tryd.func21, Tryd.ntmps21
  go_wp2
  go_loopw [8] (fun i wr => ∃ b : Nat, b ≤ n ∧ i = .int .i64 (b : Int) ∧ Hid (Bx wr w.heap.size (.int .i64 x.size) (.slice B x.wins.length d) ∧ Below w.heap.size w wr) ∧ Hid (∀ j, j < b → 0 ≤ β j)) (fun i _ => n - (intOf i).toNat)
  case atStart => exact ⟨0, Nat.zero_le _, rfl, H0.out, fun j hj => by omega⟩
  case round =>
    obtain ⟨b, hb, rfl, HR, HP⟩ := hrel
    clear H0
    obtain ⟨q0, q1, -⟩ := id HR.out.1
    by_cases hlt : b < n
    case neg =>
      obtain rfl : n = b := by omega
      have HT : Hid (SB = true) := HSA.out HP.out
      go_wp2
      go_ret
      exact ⟨ret_bool HT.out.symm, HR.out.2⟩
    have hbb := HBB.out b hlt
    by_cases hneg : β b < 0
    · have HF : Hid (SB = false) := HSH.out b hlt hneg
      go_wp2_with fail
      refine (HBA.out _ b HR.out.2 hlt).mono ?_
      rintro e w5 ⟨rfl, hb5⟩
      have H5 : Hid (Below w.heap.size w w5) := HR.out.2.trans (hb5.mono HR.out.2.size)
      clear hb5
      go_wp2
      go_ret
      exact ⟨ret_bool HF.out.symm, H5.out⟩
    · have HP2 : Hid (∀ j, j < b + 1 → 0 ≤ β j) := fun j hj => by
        rcases Nat.lt_or_ge j b with h | h
        · exact HP.out j h
        · obtain rfl : j = b := by omega
          omega
      go_wp2_with fail
      refine (HBA.out _ b HR.out.2 hlt).mono ?_
      rintro e w5 ⟨rfl, hb5⟩
      have H5 : Hid (Bx w5 w.heap.size (.int .i64 x.size) (.slice B x.wins.length d) ∧ Below w.heap.size w w5) := ⟨HR.out.1.below hb5, HR.out.2.trans (hb5.mono HR.out.2.size)⟩
      clear hb5
      go_wp2
      go_roundw
      case rel => exact ⟨b + 1, by omega, by go_num, H5.out, HP2.out⟩
      case measure => simp [intOf]; omega
end Go.Proofs.YtklhplifceedeaaDoor
