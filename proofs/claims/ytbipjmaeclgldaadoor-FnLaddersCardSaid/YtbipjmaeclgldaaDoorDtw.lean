/- Tours that are drawn: the walks. -/
import Derived.Test.YtbipjmaeclgldaaDoorPto
import Derived.Test.YtbipjmaeclgldaaDoorDtq
namespace Go.Proofs.YtbipjmaeclgldaaDoor
open Go.ChangeShapes Go.WideShapes Go.ChangeAt Go.RowKit

theorem low_bit {m : Nat} (hm : m < 2 ^ 29) : bits BinOp.and IntKind.i64 (m : Int) 1 = ((m &&& 1 : Nat) : Int) :=
  (bits_nat .i64 29 (by decide) (fun n h0 h1 => by rw [IntKind.wrap_i64]; omega) m 1 hm (by decide)).1
theorem low_01 (m : Nat) : m &&& 1 = 0 ∨ m &&& 1 = 1 := by rw [Nat.and_one_is_mod]; omega
set_option maxHeartbeats 4000000 in
set_option maxRecDepth 100000 in
theorem l02Of_any (n m : Nat) (w : World) (hn1 : 1 ≤ n) (hn : n ≤ 8) (hm : m < 2 ^ 29) :
    Calls Tryd.prog 36 #[.int .i64 (n : Int), .int .i64 (m : Int)] w fun e w' => ∃ v' xs, e = .returned (.agg #[.int .i64 (n : Int), v']) ∧ Fr w' w.heap.size w'.heap.size v' xs ∧ tourB ⟨(n : Int), xs⟩ = true ∧ Below w.heap.size w w' := by
  have HM : Hid (m < 2 ^ 29) := hm
  clear hm
  go_enter Tryd.func36, Tryd.ntmps36
  go_wp2_with (at_make; refine makeI rfl _ _ rfl _ n rfl rfl (by omega) ?_; intro w1 hfr hb hsz)
  have HW := Lib.hid (toW_start hfr hb hsz)
  clear hfr hb hsz
  generalize w1.alloc (.cells #[.int .i64 (n : Int), .slice (some ⟨w.heap.size + 1, 0, none⟩) n n] 33) = W0 at *
  go_loopw [1, 6] (fun q i wr => ∃ (M a : Nat) (xs : List Int), a ≤ n ∧ q = .int .i64 (M : Int) ∧ i = .int .i64 a ∧ Hid (M < 2 ^ 29 ∧ PvT xs n a (a + 1) ∧ ToAt w W0 wr n xs)) (fun _ i _ => n - (intOf i).toNat)
  case atStart => exact ⟨m, 0, _, Nat.zero_le _, rfl, rfl, HM.out, PvT.start n, HW.out.at0⟩
  case round =>
    obtain ⟨M, a, xs, ha, rfl, rfl, HR⟩ := hrel
    obtain ⟨wo, rfl⟩ : ∃ W, W = wr := ⟨wr, rfl⟩
    by_cases hlt : a < n
    case neg =>
      obtain rfl : a = n := by omega
      obtain ⟨c0, c1, z0, z1, f0, f1⟩ := HR.out.2.2.cells HW.out
      have HOK : Hid (tourB ⟨(a : Int), xs⟩ = true) := HR.out.2.1.ok hn1 hn
      go_wp2
      have KP : Keep w.heap.size (w.heap.size + 1) wo ((wo.setCell ⟨w.heap.size, 0, none⟩ (.int .i64 (a : Int))).setCell ⟨w.heap.size, 1, none⟩ (.slice (some ⟨w.heap.size + 1, 0, none⟩) a a)) :=
        ((Keep.refl _ _ _).setCell (p := ⟨w.heap.size, 0, none⟩) (Nat.le_refl _) (Nat.lt_succ_self _) _).setCell (p := ⟨w.heap.size, 1, none⟩) (Nat.le_refl _) (Nat.lt_succ_self _) _
      have hbe := HR.out.2.2.be HW.out
      refine bodyPost_ret (v := .agg #[.int .i64 (a : Int), .slice (some ⟨w.heap.size + 1, 0, none⟩) a a]) (by simp [results, Tryd.results36, go_sem, z0, z1]) rfl ⟨_, xs, rfl, ((HR.out.2.2.row.keep KP (.inr (Nat.le_refl _))).wide (by omega) (Nat.le_trans HR.out.2.2.row.2.2 KP.size) (Nat.le_refl _)), HOK.out, hbe.trans (KP.below (Nat.le_refl _) hbe.size)⟩
    go_wp2
    go_loopw [1, 7] (fun q i wr => ∃ (M b : Nat) (xs : List Int), a + 1 ≤ b ∧ b ≤ n ∧ q = .int .i64 (M : Int) ∧ i = .int .i64 b ∧ Hid (M < 2 ^ 29 ∧ PvT xs n a b ∧ ToAt w W0 wr n xs)) (fun _ i _ => n - (intOf i).toNat)
    case atStart => exact ⟨M, a + 1, xs, Nat.le_refl _, by omega, rfl, by go_num, HR.out⟩
    case round =>
      obtain ⟨M2, b, ys, hab, hb, rfl, rfl, HI⟩ := hrel
      clear HR
      by_cases hlt2 : b < n
      case neg =>
        obtain rfl : b = n := by omega
        have HN : Hid (M2 < 2 ^ 29 ∧ PvT ys b (a + 1) (a + 1 + 1) ∧ ToAt w W0 wr b ys) := ⟨HI.out.1, HI.out.2.1.next, HI.out.2.2⟩
        go_wp2
        go_roundw
        case rel => exact ⟨M2, a + 1, ys, by omega, rfl, by go_num, HN.out⟩
        case measure => simp [intOf]; omega
      have hlb := low_bit HI.out.1
      have HM2 : Hid (M2 / 2 < 2 ^ 29) := Nat.lt_of_le_of_lt (Nat.div_le_self _ _) HI.out.1
      have HDV : Hid ((M2 : Int) / 2 = ((M2 / 2 : Nat) : Int)) := by show _ = _; rw [Int.natCast_ediv]; rfl
      have hPw : ∀ k : Fin 8, (2 : Nat) ^ k.val ≤ 128 ∧ IntKind.i64.wrap ((2 : Int) ^ k.val) = ((2 ^ k.val : Nat) : Int) := by decide +kernel
      obtain ⟨c0, c1, -, -, -, -⟩ := HI.out.2.2.cells HW.out
      have hai : (a : Int) < n := by omega
      have hbi : (b : Int) < n := by omega
      have ha64 : (a : Int) < 64 := by omega
      have hb64 : (b : Int) < 64 := by omega
      have ha8 : a < 8 := by omega
      have hb8 : b < 8 := by omega
      rcases low_01 M2 with h1 | h1
      · rw [h1] at hlb
        obtain ⟨y, hy⟩ : ∃ y, ys[b]? = some y := ⟨_, List.getElem?_eq_getElem (by rw [HI.out.2.1.len]; omega)⟩
        obtain ⟨y0, y1, hlay⟩ := HI.out.2.1.lay hn (show a < b by omega) hlt2 (.inr ⟨rfl, rfl⟩) hy
        obtain ⟨-, r0, r1, rs⟩ := HI.out.2.2.set hy
        obtain ⟨hq1, hq2⟩ := hPw ⟨a, ha8⟩
        simp only at hq1 hq2
        have HS := Lib.hid (And.intro hlay (rs (y + ((2 ^ a : Nat) : Int))))
        obtain ⟨Q, hQ⟩ : ∃ Q : Nat, 2 ^ a = Q := ⟨_, rfl⟩
        rw [hQ] at hq1 hq2 HS
        clear hQ hlay rs hPw h1
        have HQ := Lib.hid hq2
        clear hq2
        have hyw : IntKind.i64.wrap (y + (Q : Int)) = y + Q := by rw [IntKind.wrap_i64]; omega
        have hq2 := HQ.out
        go_wp2
        go_region
        all_goals go_wp2
        all_goals clear hq2
        all_goals exact ⟨⟨M2 / 2, b + 1, _, by omega, by omega, by rw [HDV.out], by go_num, ⟨HM2.out, HS.out.1, HS.out.2.drew⟩⟩, by simp [intOf]; omega⟩
      · rw [h1] at hlb
        obtain ⟨y, hy⟩ : ∃ y, ys[a]? = some y := ⟨_, List.getElem?_eq_getElem (by rw [HI.out.2.1.len]; omega)⟩
        obtain ⟨y0, y1, hlay⟩ := HI.out.2.1.lay hn (show a < b by omega) hlt2 (.inl ⟨rfl, rfl⟩) hy
        obtain ⟨-, r0, r1, rs⟩ := HI.out.2.2.set hy
        obtain ⟨hq1, hq2⟩ := hPw ⟨b, hb8⟩
        simp only at hq1 hq2
        have HS := Lib.hid (And.intro hlay (rs (y + ((2 ^ b : Nat) : Int))))
        obtain ⟨Q, hQ⟩ : ∃ Q : Nat, 2 ^ b = Q := ⟨_, rfl⟩
        rw [hQ] at hq1 hq2 HS
        clear hQ hlay rs hPw h1
        have HQ := Lib.hid hq2
        clear hq2
        have hyw : IntKind.i64.wrap (y + (Q : Int)) = y + Q := by rw [IntKind.wrap_i64]; omega
        have hq2 := HQ.out
        go_wp2
        go_region
        all_goals go_wp2
        all_goals clear hq2
        all_goals exact ⟨⟨M2 / 2, b + 1, _, by omega, by omega, by rw [HDV.out], by go_num, ⟨HM2.out, HS.out.1, HS.out.2.drew⟩⟩, by simp [intOf]; omega⟩
end Go.Proofs.YtbipjmaeclgldaaDoor
