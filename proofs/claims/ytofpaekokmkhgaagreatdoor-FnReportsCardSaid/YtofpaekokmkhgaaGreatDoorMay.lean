/- Tours that are drawn: the walks. -/
import Derived.Test.YtofpaekokmkhgaaGreatDoorMax
import Derived.Test.YtofpaekokmkhgaaGreatDoorDtq
import Derived.Test.YtofpaekokmkhgaaGreatDoorMac
import Derived.Test.YtofpaekokmkhgaaGreatDoorMah
import Derived.Deep.RegionHeld3
namespace Go.Proofs.YtofpaekokmkhgaaGreatDoor
open Go.ChangeShapes Go.WideShapes Go.ChangeAt Go.RowKit

theorem low_bit {m : Nat} (hm : m < 2 ^ 29) : bits BinOp.and IntKind.i64 (m : Int) 1 = ((m &&& 1 : Nat) : Int) :=
  (bits_nat .i64 29 (by decide) (fun n h0 h1 => by rw [IntKind.wrap_i64]; omega) m 1 hm (by decide)).1
theorem low_01 (m : Nat) : m &&& 1 = 0 ∨ m &&& 1 = 1 := by rw [Nat.and_one_is_mod]; omega
set_option maxHeartbeats 4000000 in
set_option maxRecDepth 100000 in
theorem l02Of_any (n m : Nat) (w : World) (hn1 : 1 ≤ n) (hn : n ≤ 8) (hm : m < 2 ^ 29) :
    Calls Tryz.prog 45 #[.int .i64 (n : Int), .int .i64 (m : Int)] w fun e w' => ∃ v' xs, e = .returned (.agg #[.int .i64 (n : Int), v']) ∧ Fr w' w.heap.size w'.heap.size v' xs ∧ tourB ⟨(n : Int), xs⟩ = true ∧ Below w.heap.size w w' := by
  have HM : Hid (m < 2 ^ 29) := hm
  clear hm
  go_enter Tryz.func45, Tryz.ntmps45
  go_wp2_with (at_make; refine makeI rfl _ _ rfl _ n rfl rfl (by omega) ?_; intro w1 hfr hb hsz)
  have HW := Lib.hid (toW_start hfr hb hsz)
  clear hfr hb hsz
  generalize w1.alloc (.cells #[.int .i64 (n : Int), .slice (some ⟨w.heap.size + 1, 0, none⟩) n n] 25) = W0 at *
  go_loopw [1, 6] (fun q i wr => ∃ (M a : Nat) (xs : List Int), a ≤ n ∧ q = .int .i64 (M : Int) ∧ i = .int .i64 a ∧ Hid (M < 2 ^ 29 ∧ PvT xs n a (a + 1) ∧ ToAt w W0 wr n xs)) (fun _ i _ => n - (intOf i).toNat)
  case atStart => exact ⟨m, 0, _, Nat.zero_le _, rfl, rfl, HM.out, PvT.start n, HW.out.at0⟩
  case round =>
    obtain ⟨M, a, xs, ha, rfl, rfl, HR⟩ := hrel
    obtain ⟨wo, rfl⟩ : ∃ W, W = wr := ⟨wr, rfl⟩
    by_cases hlt : a < n
    case neg =>
      obtain rfl : a = n := by omega
      obtain ⟨c0, c1, z0, z1, f0, f1⟩ := HR.out.2.2.cells HW.out
      have HOK : Hid (tourB ⟨(a : Int), xs⟩ = true) := HR.out.2.1.ok hn1 hn
      go_wp2
      have KP : Keep w.heap.size (w.heap.size + 1) wo ((wo.setCell ⟨w.heap.size, 0, none⟩ (.int .i64 (a : Int))).setCell ⟨w.heap.size, 1, none⟩ (.slice (some ⟨w.heap.size + 1, 0, none⟩) a a)) :=
        ((Keep.refl _ _ _).setCell (p := ⟨w.heap.size, 0, none⟩) (Nat.le_refl _) (Nat.lt_succ_self _) _).setCell (p := ⟨w.heap.size, 1, none⟩) (Nat.le_refl _) (Nat.lt_succ_self _) _
      have hbe := HR.out.2.2.be HW.out
      refine bodyPost_ret (v := .agg #[.int .i64 (a : Int), .slice (some ⟨w.heap.size + 1, 0, none⟩) a a]) (by simp [results, Tryz.results45, go_sem, z0, z1]) rfl ⟨_, xs, rfl, ((HR.out.2.2.row.keep KP (.inr (Nat.le_refl _))).wide (by omega) (Nat.le_trans HR.out.2.2.row.2.2 KP.size) (Nat.le_refl _)), HOK.out, hbe.trans (KP.below (Nat.le_refl _) hbe.size)⟩
    go_wp2
    go_loopw [1, 7] (fun q i wr => ∃ (M b : Nat) (xs : List Int), a + 1 ≤ b ∧ b ≤ n ∧ q = .int .i64 (M : Int) ∧ i = .int .i64 b ∧ Hid (M < 2 ^ 29 ∧ PvT xs n a b ∧ ToAt w W0 wr n xs)) (fun _ i _ => n - (intOf i).toNat)
    case atStart => exact ⟨M, a + 1, xs, Nat.le_refl _, by omega, rfl, by go_num, HR.out⟩
    case round =>
      obtain ⟨M2, b, ys, hab, hb, rfl, rfl, HI⟩ := hrel
      clear HR
      by_cases hlt2 : b < n
      case neg =>
        obtain rfl : b = n := by omega
        have HN : Hid (M2 < 2 ^ 29 ∧ PvT ys b (a + 1) (a + 1 + 1) ∧ ToAt w W0 wr b ys) := ⟨HI.out.1, HI.out.2.1.next, HI.out.2.2⟩
        go_wp2
        go_roundw
        case rel => exact ⟨M2, a + 1, ys, by omega, rfl, by go_num, HN.out⟩
        case measure => simp [intOf]; omega
      have hlb := low_bit HI.out.1
      have HM2 : Hid (M2 / 2 < 2 ^ 29) := Nat.lt_of_le_of_lt (Nat.div_le_self _ _) HI.out.1
      have HDV : Hid ((M2 : Int) / 2 = ((M2 / 2 : Nat) : Int)) := by show _ = _; rw [Int.natCast_ediv]; rfl
      have hPw : ∀ k : Fin 8, (2 : Nat) ^ k.val ≤ 128 ∧ IntKind.i64.wrap ((2 : Int) ^ k.val) = ((2 ^ k.val : Nat) : Int) := by decide +kernel
      obtain ⟨c0, c1, -, -, -, -⟩ := HI.out.2.2.cells HW.out
      have hai : (a : Int) < n := by omega
      have hbi : (b : Int) < n := by omega
      have ha64 : (a : Int) < 64 := by omega
      have hb64 : (b : Int) < 64 := by omega
      have ha8 : a < 8 := by omega
      have hb8 : b < 8 := by omega
      rcases low_01 M2 with h1 | h1
      · rw [h1] at hlb
        obtain ⟨y, hy⟩ : ∃ y, ys[b]? = some y := ⟨_, List.getElem?_eq_getElem (by rw [HI.out.2.1.len]; omega)⟩
        obtain ⟨y0, y1, hlay⟩ := HI.out.2.1.lay hn (show a < b by omega) hlt2 (.inr ⟨rfl, rfl⟩) hy
        obtain ⟨-, r0, r1, rs⟩ := HI.out.2.2.set hy
        obtain ⟨hq1, hq2⟩ := hPw ⟨a, ha8⟩
        simp only at hq1 hq2
        have HS := Lib.hid (And.intro hlay (rs (y + ((2 ^ a : Nat) : Int))))
        obtain ⟨Q, hQ⟩ : ∃ Q : Nat, 2 ^ a = Q := ⟨_, rfl⟩
        rw [hQ] at hq1 hq2 HS
        clear hQ hlay rs hPw h1
        have HQ := Lib.hid hq2
        clear hq2
        have hyw : IntKind.i64.wrap (y + (Q : Int)) = y + Q := by rw [IntKind.wrap_i64]; omega
        have hq2 := HQ.out
        go_wp2
        go_region
        all_goals go_wp2
        all_goals clear hq2
        all_goals exact ⟨⟨M2 / 2, b + 1, _, by omega, by omega, by rw [HDV.out], by go_num, ⟨HM2.out, HS.out.1, HS.out.2.drew⟩⟩, by simp [intOf]; omega⟩
      · rw [h1] at hlb
        obtain ⟨y, hy⟩ : ∃ y, ys[a]? = some y := ⟨_, List.getElem?_eq_getElem (by rw [HI.out.2.1.len]; omega)⟩
        obtain ⟨y0, y1, hlay⟩ := HI.out.2.1.lay hn (show a < b by omega) hlt2 (.inl ⟨rfl, rfl⟩) hy
        obtain ⟨-, r0, r1, rs⟩ := HI.out.2.2.set hy
        obtain ⟨hq1, hq2⟩ := hPw ⟨b, hb8⟩
        simp only at hq1 hq2
        have HS := Lib.hid (And.intro hlay (rs (y + ((2 ^ b : Nat) : Int))))
        obtain ⟨Q, hQ⟩ : ∃ Q : Nat, 2 ^ b = Q := ⟨_, rfl⟩
        rw [hQ] at hq1 hq2 HS
        clear hQ hlay rs hPw h1
        have HQ := Lib.hid hq2
        clear hq2
        have hyw : IntKind.i64.wrap (y + (Q : Int)) = y + Q := by rw [IntKind.wrap_i64]; omega
        have hq2 := HQ.out
        go_wp2
        go_region
        all_goals go_wp2
        all_goals clear hq2
        all_goals exact ⟨⟨M2 / 2, b + 1, _, by omega, by omega, by rw [HDV.out], by go_num, ⟨HM2.out, HS.out.1, HS.out.2.drew⟩⟩, by simp [intOf]; omega⟩
end Go.Proofs.YtofpaekokmkhgaaGreatDoor
namespace Go.Proofs.YtofpaekokmkhgaaGreatDoor
open Go.ChangeShapes Go.WideShapes Go.ChangeAt Go.RowKit

/-- A tour's result box at the head of the frame, the cursor behind it. -/
structure DrT (w wr : World) (p : Nat) (v : Value) (n : Nat) : Prop where
  cur : Cur wr p v n
  keep : Keep p (p + 1) w wr
  z0 : wr.cell? ⟨w.heap.size, 0, none⟩ = some (.int .i64 0)
  z1 : wr.cell? ⟨w.heap.size, 1, none⟩ = some (.slice none 0 0)
  f0 : wr.frozen? ⟨w.heap.size, 0, none⟩ = false
  f1 : wr.frozen? ⟨w.heap.size, 1, none⟩ = false
  sz : w.heap.size + 1 ≤ wr.heap.size
theorem DrT.start {w : World} {p n : Nat} {v : Value} (hc : Cur w p v n) : DrT w (w.alloc (.cells #[.int .i64 0, .slice none 0 0] 25)) p v n := by
  have b1 : Below w.heap.size w (w.alloc (.cells #[.int .i64 0, .slice none 0 0] 25)) := (Below.refl _ w).alloc (Nat.le_refl _) _
  refine ⟨hc.far hc (Nat.le_refl _) b1, (Keep.refl _ _ _).far b1 (Nat.le_refl _), by simp, by simp, ?_, ?_, by simp⟩
  · rw [frozen?_alloc_cells]; simp [World.frozen?]
  · rw [frozen?_alloc_cells]; simp [World.frozen?]
theorem DrT.draw {w wr w2 : World} {p n : Nat} {v : Value} (h : DrT w wr p v n) (hp : p < w.heap.size) (hc : Cur w2 p v n) (hk : Keep p (p + 1) wr w2) : DrT w w2 p v n := by
  have hs := h.sz
  have hz : w.heap.size < wr.heap.size := by omega
  exact ⟨hc, h.keep.trans hk, (hk.cell (p := ⟨w.heap.size, 0, none⟩) hz (.inr (by show p + 1 ≤ w.heap.size; omega))).trans h.z0, (hk.cell (p := ⟨w.heap.size, 1, none⟩) hz (.inr (by show p + 1 ≤ w.heap.size; omega))).trans h.z1,
    (hk.frozen (p := ⟨w.heap.size, 0, none⟩) hz (.inr (by show p + 1 ≤ w.heap.size; omega))).trans h.f0, (hk.frozen (p := ⟨w.heap.size, 1, none⟩) hz (.inr (by show p + 1 ≤ w.heap.size; omega))).trans h.f1, Nat.le_trans hs hk.size⟩
theorem DrT.below {w wr w2 : World} {p n : Nat} {v : Value} (h : DrT w wr p v n) (hc0 : Cur w p v n) (hb : Below wr.heap.size wr w2) : DrT w w2 p v n := by
  have hs := h.sz
  have hz : w.heap.size < wr.heap.size := by omega
  exact ⟨hc0.far h.cur (lo := wr.heap.size) (by omega) hb, h.keep.far hb (by omega), (hb.cell (p := ⟨w.heap.size, 0, none⟩) hz).trans h.z0, (hb.cell (p := ⟨w.heap.size, 1, none⟩) hz).trans h.z1,
    (hb.frozen (p := ⟨w.heap.size, 0, none⟩) hz).trans h.f0, (hb.frozen (p := ⟨w.heap.size, 1, none⟩) hz).trans h.f1, Nat.le_trans hs hb.size⟩
/-- The result is stored: what the caller gets. -/
theorem DrT.ret {w wr : World} {p n lo hi : Nat} {v v' a b : Value} {xs : List Int} (h : DrT w wr p v n) (hc0 : Cur w p v n) (hf : Fr wr lo hi v' xs) (hlo : w.heap.size + 1 ≤ lo) :
    Fr ((wr.setCell ⟨w.heap.size, 0, none⟩ a).setCell ⟨w.heap.size, 1, none⟩ b) w.heap.size ((wr.setCell ⟨w.heap.size, 0, none⟩ a).setCell ⟨w.heap.size, 1, none⟩ b).heap.size v' xs ∧ Cur ((wr.setCell ⟨w.heap.size, 0, none⟩ a).setCell ⟨w.heap.size, 1, none⟩ b) p v n ∧ Keep p (p + 1) w ((wr.setCell ⟨w.heap.size, 0, none⟩ a).setCell ⟨w.heap.size, 1, none⟩ b) := by
  have KP : Keep w.heap.size (w.heap.size + 1) wr ((wr.setCell ⟨w.heap.size, 0, none⟩ a).setCell ⟨w.heap.size, 1, none⟩ b) :=
    ((Keep.refl _ _ _).setCell (p := ⟨w.heap.size, 0, none⟩) (Nat.le_refl _) (Nat.lt_succ_self _) _).setCell (p := ⟨w.heap.size, 1, none⟩) (Nat.le_refl _) (Nat.lt_succ_self _) _
  have B := KP.below (Nat.le_refl _) (Nat.le_of_succ_le h.sz)
  exact ⟨(hf.keep KP (.inr hlo)).wide (by omega) (Nat.le_trans hf.2.2 KP.size) (Nat.le_refl _), hc0.far h.cur (Nat.le_refl _) B, h.keep.far B (Nat.le_refl _)⟩

theorem l02OfZ (N M : Int) (w : World) (hn1 : 1 ≤ N) (hn : N ≤ 8) (hm0 : 0 ≤ M) (hm : M < 536870912) :
    Calls Tryz.prog 45 #[.int .i64 N, .int .i64 M] w fun e w' => ∃ A c xs, xs.length ≤ 8 ∧ (xs.length : Int) = N ∧ e = .returned (.agg #[.int .i64 N, .slice A xs.length c]) ∧ Fr w' w.heap.size w'.heap.size (.slice A xs.length c) xs ∧ tourB ⟨N, xs⟩ = true ∧ Below w.heap.size w w' := by
  obtain ⟨k, rfl⟩ := Int.eq_ofNat_of_zero_le (show 0 ≤ N by omega)
  obtain ⟨m, rfl⟩ := Int.eq_ofNat_of_zero_le hm0
  refine (l02Of_any k m w (by omega) (by omega) (by omega)).mono ?_
  rintro e w' ⟨v', xs, rfl, hf, ht, hb⟩
  obtain ⟨A, c, rfl, -⟩ := hf.form
  obtain ⟨t1, t2, t3, -, -⟩ := tourB_t ht
  simp only at t1 t2 t3
  exact ⟨A, c, xs, by omega, t3, rfl, hf, ht, hb⟩
set_option maxHeartbeats 4000000 in
set_option maxRecDepth 100000 in
theorem l02Draw_any (p : Nat) (v : Value) (n : Nat) (m : Int) (w : World) (hc : Cur w p v n) (hn : n ≤ 1048576) (h1 : 1 ≤ m) (h8 : m ≤ 8) :
    Calls Tryz.prog 42 #[.pointer (some ⟨p, 0, none⟩), .int .i64 m] w fun e w' => ∃ (A : Option Addr) (c : Nat) (xs : List Int), xs.length ≤ 8 ∧ e = .returned (.agg #[.int .i64 (xs.length : Int), .slice A xs.length c]) ∧ Fr w' w.heap.size w'.heap.size (.slice A xs.length c) xs ∧ tourB ⟨(xs.length : Int), xs⟩ = true ∧ Cur w' p v n ∧ Keep p (p + 1) w w' := by
  have HC := Lib.hid hc
  have hp := hc.lt
  clear hc
  have H0 := Lib.hid (DrT.start HC.out)
  go_enter Tryz.func42, Tryz.ntmps42
  go_wp2_with (first
    | (go_at_call 47; refine (l01Below_any p v n m _ H0.out.cur hn (by omega) (by omega)).mono ?_; rintro e w1 ⟨x1, hx1, rfl, hc1, hk1⟩; have H1 : Hid (DrT w w1 p v n) := H0.out.draw hp hc1 hk1; clear hc1 hk1 H0)
    | (go_at_call 47; refine (l01Below_any p v n 256 _ H1.out.cur hn (by omega) (by omega)).mono ?_; rintro e w2 ⟨x2, hx2, rfl, hc1, hk1⟩; have H2 : Hid (DrT w w2 p v n) := H1.out.draw hp hc1 hk1; clear hc1 hk1 H1)
    | (go_at_call 47; refine (l01Below_any p v n 256 _ H2.out.cur hn (by omega) (by omega)).mono ?_; rintro e w3 ⟨x3, hx3, rfl, hc1, hk1⟩; have H3 : Hid (DrT w w3 p v n) := H2.out.draw hp hc1 hk1; clear hc1 hk1 H2)
    | (go_at_call 47; refine (l01Below_any p v n 256 _ H3.out.cur hn (by omega) (by omega)).mono ?_; rintro e w4 ⟨x4, hx4, rfl, hc1, hk1⟩; have H4 : Hid (DrT w w4 p v n) := H3.out.draw hp hc1 hk1; clear hc1 hk1 H3)
    | (go_at_call 47; refine (l01Below_any p v n 16 _ H4.out.cur hn (by omega) (by omega)).mono ?_; rintro e w5 ⟨x5, hx5, rfl, hc1, hk1⟩; have H5 : Hid (DrT w w5 p v n) := H4.out.draw hp hc1 hk1; clear hc1 hk1 H4)
    | (go_at_call 45; refine (l02OfZ _ _ w5 (by omega) (by omega) (by omega) (by omega)).mono ?_; rintro e w6 ⟨A, c, xs, hx8, hxl, rfl, hf, ht, hb⟩; have H6 : Hid (DrT w w6 p v n ∧ Fr w6 (w.heap.size + 1) w6.heap.size (.slice A xs.length c) xs) := ⟨H5.out.below HC.out hb, hf.wide H5.out.sz (Nat.le_refl _) (Nat.le_refl _)⟩; have HT : Hid (tourB ⟨1 + x1, xs⟩ = true) := ht; clear hf ht hb H5; obtain ⟨z0, z1, f0, f1⟩ := And.intro H6.out.1.z0 (And.intro H6.out.1.z1 (And.intro H6.out.1.f0 H6.out.1.f1))))
  refine bodyPost_ret (v := .agg #[.int .i64 (1 + x1), .slice A xs.length c]) (by simp [results, Tryz.results42, go_sem, z0, z1]) rfl ⟨A, c, xs, hx8, by rw [hxl], ?_⟩
  obtain ⟨r1, r2, r3⟩ := H6.out.1.ret (a := .int .i64 (1 + x1)) (b := .slice A xs.length c) HC.out H6.out.2 (Nat.le_refl _)
  exact ⟨r1, by rw [hxl]; exact HT.out, r2, r3⟩
end Go.Proofs.YtofpaekokmkhgaaGreatDoor
