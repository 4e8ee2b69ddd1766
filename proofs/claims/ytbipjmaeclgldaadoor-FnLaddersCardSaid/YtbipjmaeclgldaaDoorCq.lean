/- Cursors over a code: numbers drawn from it. -/
import Derived.Test.YtbipjmaeclgldaaDoorSl
import Derived.BigQuiet
import Derived.Deep.QuietTactic
import Derived.Laws.BitsLemmas
namespace Go.Proofs.YtbipjmaeclgldaaDoor
open Go.ChangeShapes Go.WideShapes Go.ChangeAt Go.RowKit

/-- The slice address A reads as n bytes. -/
def ByI (w : World) (A : Option Addr) (n : Nat) : Prop := n = 0 ∨ ∃ b off, A = some ⟨b, off, none⟩ ∧ ∀ k, k < n → ∃ x : Int, 0 ≤ x ∧ x ≤ 255 ∧ w.cell? ⟨b, off + k, none⟩ = some (.int .u8 x)
theorem ByI.at_ {w : World} {A : Option Addr} {n k : Nat} (h : ByI w A n) (hk : k < n) : ∃ b off x, A = some ⟨b, off, none⟩ ∧ 0 ≤ x ∧ x ≤ 255 ∧ w.cell? ⟨b, off + k, none⟩ = some (.int .u8 x) ∧ b < w.heap.size := by
  rcases h with rfl | ⟨b, off, rfl, h⟩
  · omega
  · obtain ⟨x, h0, h1, h2⟩ := h k hk
    exact ⟨b, off, x, rfl, h0, h1, h2, block_lt_of_cell h2⟩
theorem ByI.keep {w w' : World} {A : Option Addr} {n : Nat} (h : ByI w A n) (hk : ∀ p : Addr, p.block < w.heap.size → ∀ x : Int, w.cell? p = some (.int .u8 x) → w'.cell? p = some (.int .u8 x)) : ByI w' A n := by
  rcases h with rfl | ⟨b, off, rfl, h⟩
  · exact .inl rfl
  · refine .inr ⟨b, off, rfl, fun k hk' => ?_⟩
    obtain ⟨x, h0, h1, h2⟩ := h k hk'
    exact ⟨x, h0, h1, hk _ (block_lt_of_cell h2) x h2⟩
theorem ByI.below {w w' : World} {A : Option Addr} {n : Nat} (h : ByI w A n) (hb : Below w.heap.size w w') : ByI w' A n := h.keep fun _ hp _ hx => (hb.cell hp).trans hx
/-- The value v reads as n bytes. -/
def InB (w : World) (v : Value) (n : Nat) : Prop := ∃ A c, v = .slice A n c ∧ n ≤ c ∧ c ≤ maxLen ∧ ByI w A n
theorem InB.below {w w' : World} {v : Value} {n : Nat} (h : InB w v n) (hb : Below w.heap.size w w') : InB w' v n := by
  obtain ⟨A, c, rfl, h1, h2, h3⟩ := h; exact ⟨A, c, rfl, h1, h2, h3.below hb⟩
theorem and_rng (x : Int) (m : Nat) (hm : m < 9223372036854775808) : 0 ≤ bits BinOp.and IntKind.i64 x (m : Int) ∧ bits BinOp.and IntKind.i64 x (m : Int) ≤ m := by
  have h1 : (BitVec.ofInt 64 (m : Int)).toNat = m := by rw [BitVec.ofInt_natCast, BitVec.toNat_ofNat]; exact Nat.mod_eq_of_lt (by omega)
  have h2 : (BitVec.ofInt 64 x &&& BitVec.ofInt 64 (m : Int)).toNat ≤ m := by rw [BitVec.toNat_and, h1]; exact Nat.and_le_right
  show 0 ≤ IntKind.i64.wrap _ ∧ IntKind.i64.wrap _ ≤ _
  have h3 : bits BinOp.and IntKind.i64 x (m : Int) = IntKind.i64.wrap (((BitVec.ofInt 64 x &&& BitVec.ofInt 64 (m : Int)).toNat : Nat) : Int) := rfl
  rw [IntKind.wrap_i64] at h3
  show 0 ≤ bits BinOp.and IntKind.i64 x (m : Int) ∧ bits BinOp.and IntKind.i64 x (m : Int) ≤ m
  rw [h3]
  omega
theorem and_255 (x : Int) : 0 ≤ bits BinOp.and IntKind.i64 x 255 ∧ bits BinOp.and IntKind.i64 x 255 ≤ 255 := and_rng x 255 (by decide)
theorem and_big (x : Int) : 0 ≤ bits BinOp.and IntKind.i64 x 1073741823 ∧ bits BinOp.and IntKind.i64 x 1073741823 ≤ 1073741823 := and_rng x 1073741823 (by decide)
/-- The block p holds a cursor over n bytes. -/
structure Cur (w : World) (p : Nat) (v : Value) (n : Nat) : Prop where
  b : w.cell? ⟨p, 0, none⟩ = some v
  i : ∃ i : Nat, i ≤ n ∧ w.cell? ⟨p, 1, none⟩ = some (.int .i64 (i : Int))
  h : ∃ h : Int, w.cell? ⟨p, 2, none⟩ = some (.int .i64 h)
  f1 : w.frozen? ⟨p, 1, none⟩ = false
  f2 : w.frozen? ⟨p, 2, none⟩ = false
  lt : p < w.heap.size
  inb : InB w v n
theorem byI_setCell {w : World} {A : Option Addr} {n p k : Nat} {y u : Value} (h : ByI w A n) (hp : w.cell? ⟨p, k, none⟩ = some y) (hy : ∀ x : Int, y ≠ .int .u8 x) : ByI (w.setCell ⟨p, k, none⟩ u) A n := by
  refine h.keep fun q hq x hx => ?_
  rw [World.cell?_setCell_other _ _ _ _ (fun e => by rw [← e, hp] at hx; injection hx with hx; exact hy x hx)]
  exact hx
theorem Cur.set1 {w : World} {p n : Nat} {v : Value} (h : Cur w p v n) {j : Nat} (hj : j ≤ n) : Cur (w.setCell ⟨p, 1, none⟩ (.int .i64 (j : Int))) p v n := by
  obtain ⟨i, _, hi⟩ := h.i
  obtain ⟨hh, h2⟩ := h.h
  obtain ⟨A, c, rfl, h1, h3, h4⟩ := h.inb
  exact ⟨(World.cell?_setCell_other _ _ _ _ (by simp)).trans h.b, ⟨j, hj, World.cell?_setCell_same _ _ _ hi⟩, ⟨hh, (World.cell?_setCell_other _ _ _ _ (by simp)).trans h2⟩, by rw [World.frozen?_setCell]; exact h.f1, by rw [World.frozen?_setCell]; exact h.f2, by have := h.lt; simpa [World.setCell] using this,
    A, c, rfl, h1, h3, byI_setCell h4 hi (fun x => by simp)⟩
theorem Cur.set2 {w : World} {p n : Nat} {v : Value} (h : Cur w p v n) (y : Int) : Cur (w.setCell ⟨p, 2, none⟩ (.int .i64 y)) p v n := by
  obtain ⟨i, hi0, hi⟩ := h.i
  obtain ⟨hh, h2⟩ := h.h
  obtain ⟨A, c, rfl, h1, h3, h4⟩ := h.inb
  exact ⟨(World.cell?_setCell_other _ _ _ _ (by simp)).trans h.b, ⟨i, hi0, (World.cell?_setCell_other _ _ _ _ (by simp)).trans hi⟩, ⟨y, World.cell?_setCell_same _ _ _ h2⟩, by rw [World.frozen?_setCell]; exact h.f1, by rw [World.frozen?_setCell]; exact h.f2, by have := h.lt; simpa [World.setCell] using this,
    A, c, rfl, h1, h3, byI_setCell h4 h2 (fun x => by simp)⟩
theorem Cur.drewN {w : World} {p n : Nat} {v : Value} (h : Cur w p v n) (q : Nat) : Cur (w.drewN q) p v n := ⟨h.b, h.i, h.h, h.f1, h.f2, h.lt, h.inb⟩

set_option maxHeartbeats 1000000 in
set_option maxRecDepth 100000 in
theorem l01New_any (v : Value) (n : Nat) (w : World) (hv : InB w v n) (hn : n ≤ 1048576) :
    Calls Tryd.prog 50 #[v] w fun e w' => e = .returned (.pointer (some ⟨w.heap.size, 0, none⟩)) ∧ Cur w' w.heap.size v n ∧ Below w.heap.size w w' := by
  have HV := Lib.hid hv
  obtain ⟨A, c, rfl, hc, hm, hb⟩ := hv
  have HB := Lib.hid hb
  clear hb
  unfold maxLen at hm
  go_enter Tryd.func50, Tryd.ntmps50
  go_wp2
  go_loop [3, 4] (fun hv i => ∃ (hh : Int) (q : Nat), q ≤ n ∧ 0 ≤ hh ∧ hh ≤ 1073741823 ∧ hv = .int .i64 hh ∧ i = .int .i64 q) (fun _ i => n - (intOf i).toNat)
  case atStart => exact ⟨2142 + n, 0, Nat.zero_le _, by omega, by omega, rfl, rfl⟩
  case round =>
    obtain ⟨hh, q, hq, h0, h1, rfl, rfl⟩ := hrel
    by_cases hlt : q < n
    case neg =>
      obtain rfl : n = q := by omega
      go_wp2
      go_ret
      refine ⟨rfl, ⟨by simp, ⟨0, Nat.zero_le _, by simp⟩, ⟨hh, by simp⟩, by simp, by simp, by simp, HV.out.below ((Below.refl _ w).alloc (Nat.le_refl _) _)⟩, (Below.refl _ w).alloc (Nat.le_refl _) _⟩
    by_cases h4 : q < 4000
    case neg =>
      go_wp2
      go_ret
      refine ⟨rfl, ⟨by simp, ⟨0, Nat.zero_le _, by simp⟩, ⟨hh, by simp⟩, by simp, by simp, by simp, HV.out.below ((Below.refl _ w).alloc (Nat.le_refl _) _)⟩, (Below.refl _ w).alloc (Nat.le_refl _) _⟩
    obtain ⟨b, off, x, rfl, hx0, hx1, hcx, _⟩ := HB.out.at_ hlt
    have hr := and_big (hh * 163 + x + 7)
    go_wp2
    go_round
    case rel => exact ⟨_, q + 1, by omega, hr.1, hr.2, rfl, by go_num⟩
    case measure => simp [intOf]; omega

theorem Cur.keep1 {w : World} {p n : Nat} {v : Value} (h : Cur w p v n) {j : Nat} (hj : j ≤ n) : Cur (w.setCell ⟨p, 1, none⟩ (.int .i64 (j : Int))) p v n ∧ Keep p (p + 1) w (w.setCell ⟨p, 1, none⟩ (.int .i64 (j : Int))) :=
  ⟨h.set1 hj, Keep.setCell (p := ⟨p, 1, none⟩) (Keep.refl p (p + 1) w) (Nat.le_refl p) (Nat.lt_succ_self p) _⟩
theorem Cur.keep2 {w : World} {p n : Nat} {v : Value} (h : Cur w p v n) (y : Int) : Cur (w.setCell ⟨p, 2, none⟩ (.int .i64 y)) p v n ∧ Keep p (p + 1) w (w.setCell ⟨p, 2, none⟩ (.int .i64 y)) :=
  ⟨h.set2 y, Keep.setCell (p := ⟨p, 2, none⟩) (Keep.refl p (p + 1) w) (Nat.le_refl p) (Nat.lt_succ_self p) _⟩
set_option maxHeartbeats 2000000 in
set_option maxRecDepth 100000 in
theorem l01Byte_any (p : Nat) (v : Value) (n : Nat) (w : World) (hc : Cur w p v n) (_hn : n ≤ 1048576) :
    Calls Tryd.prog 32 #[.pointer (some ⟨p, 0, none⟩)] w fun e w' => ∃ x : Int, (0 ≤ x ∧ x ≤ 255) ∧ e = .returned (.int .i64 x) ∧ Cur w' p v n ∧ Keep p (p + 1) w w' := by
  have HN : Hid (∀ y : Int, Cur (w.setCell ⟨p, 2, none⟩ (.int .i64 y)) p v n ∧ Keep p (p + 1) w (w.setCell ⟨p, 2, none⟩ (.int .i64 y))) := fun y => hc.keep2 y
  obtain ⟨h, hh⟩ := hc.h
  have hf2 := hc.f2
  clear hc
  go_enter Tryd.func32, Tryd.ntmps32
  go_wp2
  obtain ⟨hc1, hk1⟩ := HN.out (wrap64 (wrap64 (h * 6364136223846793005) + 1442695040888963407))
  generalize w.setCell ⟨p, 2, none⟩ (Value.int IntKind.i64 (wrap64 (wrap64 (h * 6364136223846793005) + 1442695040888963407))) = w1 at hc1 hk1 ⊢
  have HC := Lib.hid hc1
  have HK := Lib.hid hk1
  obtain ⟨i, hi, hci⟩ := hc1.i
  obtain ⟨h', hh'⟩ := hc1.h
  have hcb := hc1.b
  obtain ⟨A, c, rfl, hle, hmx, HB⟩ := hc1.inb
  have HB := Lib.hid HB
  have hf1 := hc1.f1
  unfold maxLen at hmx
  clear hc1 hk1 hh hf2 HN
  go_quiet (fail)
  go_wp2
  go_quiet (fail)
  by_cases hlt : i < n
  case neg =>
    go_wp2
    go_ret
    exact ⟨_, and_255 _, rfl, (HC.out.drewN _).drewN _, (HK.out.drewN _).drewN _⟩
  obtain ⟨b, off, x, rfl, hx0, hx1, hcx, _⟩ := HB.out.at_ hlt
  have hx := and_255 (bits BinOp.xor IntKind.i64 (h' / 8589934592) (h' / 35184372088832))
  go_wp2
  generalize bits BinOp.and IntKind.i64 (bits BinOp.xor IntKind.i64 (h' / 8589934592) (h' / 35184372088832)) 255 = y at hx ⊢
  go_quiet (fail)
  have hy := and_255 (y + x)
  go_wp2
  go_ret
  exact ⟨_, hy, rfl, (Cur.keep1 (HC.out.drewN _) (j := i + 1) hlt).1, (HK.out.drewN _).trans (Cur.keep1 (HC.out.drewN _) (j := i + 1) hlt).2⟩

set_option maxHeartbeats 2000000 in
set_option maxRecDepth 100000 in
theorem l32New_any (v : Value) (n m : Nat) (w : World) (hv : InB w v n) (hn : n ≤ 1048576) (hm : m ≤ 1048576) :
    Calls Tryd.prog 31 #[v, .int .i64 (m : Int)] w fun e w' => e = .returned (.pointer (some ⟨w.heap.size, 0, none⟩)) ∧ Cur w' w.heap.size v n ∧ Below w.heap.size w w' := by
  have HV := Lib.hid hv
  clear hv
  go_enter Tryd.func31, Tryd.ntmps31
  go_wp2_with (go_at_call 50; refine (l01New_any v n w HV.out hn).mono ?_; rintro e w1 ⟨rfl, hc, hb⟩; have HC : Hid (Cur w1 w.heap.size v n ∧ Below w.heap.size w w1) := ⟨hc, hb⟩; clear hc hb)
  go_loopw [6] (fun i wr => ∃ q : Nat, q ≤ m ∧ i = .int .i64 q ∧ Hid (Cur wr w.heap.size v n ∧ Below w.heap.size w wr)) (fun i _ => m - (intOf i).toNat)
  case atStart => exact ⟨0, Nat.zero_le _, rfl, HC⟩
  case round =>
    obtain ⟨q, hq, rfl, HR⟩ := hrel
    by_cases hlt : q < m
    case neg =>
      go_wp2
      go_ret
      exact ⟨rfl, HR.out.1, HR.out.2⟩
    go_wp2_with (go_at_call 32; refine (l01Byte_any w.heap.size v n _ HR.out.1 hn).mono ?_; rintro e w2 ⟨x, hx, rfl, hc2, hk2⟩; have H2 : Hid (Cur w2 w.heap.size v n ∧ Below w.heap.size w w2) := ⟨hc2, HR.out.2.trans (hk2.below (Nat.le_refl _) (Nat.le_of_lt HR.out.1.lt))⟩; clear hc2 hk2)
    go_round
    case rel => exact ⟨q + 1, by omega, by go_num, H2⟩
    case measure => simp [intOf]; omega

set_option maxHeartbeats 2000000 in
set_option maxRecDepth 100000 in
theorem makeNum_any (v : Value) (n m : Nat) (w : World) (hv : InB w v n) (hn : n ≤ 1048576) (hm : m ≤ 1048576) :
    Calls Tryd.prog 9 #[v, .int .i64 (m : Int)] w fun e w' => ∃ q : Nat, q ≤ 65535 ∧ e = .returned (.int .i64 (q : Int)) ∧ Below w.heap.size w w' := by
  have HV := Lib.hid hv
  clear hv
  go_enter Tryd.func9, Tryd.ntmps9
  go_wp2_with (first
    | (go_at_call 31; refine (l32New_any v n m w HV.out hn hm).mono ?_; rintro e w1 ⟨rfl, hc, hb⟩; have HC : Hid (Cur w1 w.heap.size v n ∧ Below w.heap.size w w1) := ⟨hc, hb⟩; clear hc hb)
    | (go_at_call 32; refine (l01Byte_any w.heap.size v n _ HC.out.1 hn).mono ?_; rintro e w2 ⟨x, hx, rfl, hc2, hk2⟩; have H2 : Hid (Cur w2 w.heap.size v n ∧ Below w.heap.size w w2) := ⟨hc2, HC.out.2.trans (hk2.below (Nat.le_refl _) (Nat.le_of_lt HC.out.1.lt))⟩; clear hc2 hk2 HC)
    | (go_at_call 32; refine (l01Byte_any w.heap.size v n _ H2.out.1 hn).mono ?_; rintro e w3 ⟨y, hy, rfl, hc3, hk3⟩; have H3 : Hid (Cur w3 w.heap.size v n ∧ Below w.heap.size w w3) := ⟨hc3, H2.out.2.trans (hk3.below (Nat.le_refl _) (Nat.le_of_lt H2.out.1.lt))⟩; clear hc3 hk3 H2))
  go_ret
  exact ⟨(x * 256 + y).toNat, by omega, by go_num, H3.out.2⟩
end Go.Proofs.YtbipjmaeclgldaaDoor
