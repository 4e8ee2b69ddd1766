/- Cursors over a code: numbers drawn from it. -/
import Derived.Test.YtofpaekokmkhgaaGreatDoorSl
import Derived.BigQuiet
import Derived.Deep.QuietTactic
import Derived.Laws.BitsLemmas
import Derived.Test.YtofpaekokmkhgaaGreatDoorBase
namespace Go.Proofs.YtofpaekokmkhgaaGreatDoor
open Go.ChangeShapes Go.WideShapes Go.ChangeAt Go.RowKit

/-- The slice address A reads as n bytes. -/
def ByI (w : World) (A : Option Addr) (n : Nat) : Prop := n = 0 ∨ ∃ b off, A = some ⟨b, off, none⟩ ∧ ∀ k, k < n → ∃ x : Int, 0 ≤ x ∧ x ≤ 255 ∧ w.cell? ⟨b, off + k, none⟩ = some (.int .u8 x)
theorem ByI.at_ {w : World} {A : Option Addr} {n k : Nat} (h : ByI w A n) (hk : k < n) : ∃ b off x, A = some ⟨b, off, none⟩ ∧ 0 ≤ x ∧ x ≤ 255 ∧ w.cell? ⟨b, off + k, none⟩ = some (.int .u8 x) ∧ b < w.heap.size := by
  rcases h with rfl | ⟨b, off, rfl, h⟩
  · omega
  · obtain ⟨x, h0, h1, h2⟩ := h k hk
    exact ⟨b, off, x, rfl, h0, h1, h2, block_lt_of_cell h2⟩
theorem ByI.keep {w w' : World} {A : Option Addr} {n : Nat} (h : ByI w A n) (hk : ∀ p : Addr, p.block < w.heap.size → ∀ x : Int, w.cell? p = some (.int .u8 x) → w'.cell? p = some (.int .u8 x)) : ByI w' A n := by
  rcases h with rfl | ⟨b, off, rfl, h⟩
  · exact .inl rfl
  · refine .inr ⟨b, off, rfl, fun k hk' => ?_⟩
    obtain ⟨x, h0, h1, h2⟩ := h k hk'
    exact ⟨x, h0, h1, hk _ (block_lt_of_cell h2) x h2⟩
theorem ByI.below {w w' : World} {A : Option Addr} {n : Nat} (h : ByI w A n) (hb : Below w.heap.size w w') : ByI w' A n := h.keep fun _ hp _ hx => (hb.cell hp).trans hx
/-- The value v reads as n bytes. -/
def InB (w : World) (v : Value) (n : Nat) : Prop := ∃ A c, v = .slice A n c ∧ n ≤ c ∧ c ≤ maxLen ∧ ByI w A n
theorem InB.below {w w' : World} {v : Value} {n : Nat} (h : InB w v n) (hb : Below w.heap.size w w') : InB w' v n := by
  obtain ⟨A, c, rfl, h1, h2, h3⟩ := h; exact ⟨A, c, rfl, h1, h2, h3.below hb⟩
theorem and_rng (x : Int) (m : Nat) (hm : m < 9223372036854775808) : 0 ≤ bits BinOp.and IntKind.i64 x (m : Int) ∧ bits BinOp.and IntKind.i64 x (m : Int) ≤ m := by
  have h1 : (BitVec.ofInt 64 (m : Int)).toNat = m := by rw [BitVec.ofInt_natCast, BitVec.toNat_ofNat]; exact Nat.mod_eq_of_lt (by omega)
  have h2 : (BitVec.ofInt 64 x &&& BitVec.ofInt 64 (m : Int)).toNat ≤ m := by rw [BitVec.toNat_and, h1]; exact Nat.and_le_right
  show 0 ≤ IntKind.i64.wrap _ ∧ IntKind.i64.wrap _ ≤ _
  have h3 : bits BinOp.and IntKind.i64 x (m : Int) = IntKind.i64.wrap (((BitVec.ofInt 64 x &&& BitVec.ofInt 64 (m : Int)).toNat : Nat) : Int) := rfl
  rw [IntKind.wrap_i64] at h3
  show 0 ≤ bits BinOp.and IntKind.i64 x (m : Int) ∧ bits BinOp.and IntKind.i64 x (m : Int) ≤ m
  rw [h3]
  omega
theorem and_255 (x : Int) : 0 ≤ bits BinOp.and IntKind.i64 x 255 ∧ bits BinOp.and IntKind.i64 x 255 ≤ 255 := and_rng x 255 (by decide)
theorem and_big (x : Int) : 0 ≤ bits BinOp.and IntKind.i64 x 1073741823 ∧ bits BinOp.and IntKind.i64 x 1073741823 ≤ 1073741823 := and_rng x 1073741823 (by decide)
/-- The block p holds a cursor over n bytes. -/
structure Cur (w : World) (p : Nat) (v : Value) (n : Nat) : Prop where
  b : w.cell? ⟨p, 0, none⟩ = some v
  i : ∃ i : Nat, i ≤ n ∧ w.cell? ⟨p, 1, none⟩ = some (.int .i64 (i : Int))
  h : ∃ h : Int, w.cell? ⟨p, 2, none⟩ = some (.int .i64 h)
  f1 : w.frozen? ⟨p, 1, none⟩ = false
  f2 : w.frozen? ⟨p, 2, none⟩ = false
  lt : p < w.heap.size
  inb : InB w v n
theorem byI_setCell {w : World} {A : Option Addr} {n p k : Nat} {y u : Value} (h : ByI w A n) (hp : w.cell? ⟨p, k, none⟩ = some y) (hy : ∀ x : Int, y ≠ .int .u8 x) : ByI (w.setCell ⟨p, k, none⟩ u) A n := by
  refine h.keep fun q hq x hx => ?_
  rw [World.cell?_setCell_other _ _ _ _ (fun e => by rw [← e, hp] at hx; injection hx with hx; exact hy x hx)]
  exact hx
theorem Cur.set1 {w : World} {p n : Nat} {v : Value} (h : Cur w p v n) {j : Nat} (hj : j ≤ n) : Cur (w.setCell ⟨p, 1, none⟩ (.int .i64 (j : Int))) p v n := by
  obtain ⟨i, _, hi⟩ := h.i
  obtain ⟨hh, h2⟩ := h.h
  obtain ⟨A, c, rfl, h1, h3, h4⟩ := h.inb
  exact ⟨(World.cell?_setCell_other _ _ _ _ (by simp)).trans h.b, ⟨j, hj, World.cell?_setCell_same _ _ _ hi⟩, ⟨hh, (World.cell?_setCell_other _ _ _ _ (by simp)).trans h2⟩, by rw [World.frozen?_setCell]; exact h.f1, by rw [World.frozen?_setCell]; exact h.f2, by have := h.lt; simpa [World.setCell] using this,
    A, c, rfl, h1, h3, byI_setCell h4 hi (fun x => by simp)⟩
theorem Cur.set2 {w : World} {p n : Nat} {v : Value} (h : Cur w p v n) (y : Int) : Cur (w.setCell ⟨p, 2, none⟩ (.int .i64 y)) p v n := by
  obtain ⟨i, hi0, hi⟩ := h.i
  obtain ⟨hh, h2⟩ := h.h
  obtain ⟨A, c, rfl, h1, h3, h4⟩ := h.inb
  exact ⟨(World.cell?_setCell_other _ _ _ _ (by simp)).trans h.b, ⟨i, hi0, (World.cell?_setCell_other _ _ _ _ (by simp)).trans hi⟩, ⟨y, World.cell?_setCell_same _ _ _ h2⟩, by rw [World.frozen?_setCell]; exact h.f1, by rw [World.frozen?_setCell]; exact h.f2, by have := h.lt; simpa [World.setCell] using this,
    A, c, rfl, h1, h3, byI_setCell h4 h2 (fun x => by simp)⟩
theorem Cur.drewN {w : World} {p n : Nat} {v : Value} (h : Cur w p v n) (q : Nat) : Cur (w.drewN q) p v n := ⟨h.b, h.i, h.h, h.f1, h.f2, h.lt, h.inb⟩

set_option maxHeartbeats 1000000 in
set_option maxRecDepth 100000 in
theorem l01New_any (v : Value) (n : Nat) (w : World) (hv : InB w v n) (hn : n ≤ 1048576) :
    Calls Tryz.prog 49 #[v] w fun e w' => e = .returned (.pointer (some ⟨w.heap.size, 0, none⟩)) ∧ Cur w' w.heap.size v n ∧ Below w.heap.size w w' := by
  have HV := Lib.hid hv
  obtain ⟨A, c, rfl, hc, hm, hb⟩ := hv
  have HB := Lib.hid hb
  clear hb
  unfold maxLen at hm
  go_enter Tryz.func49, Tryz.ntmps49
  go_wp2
  go_loop [3, 4] (fun hv i => ∃ (hh : Int) (q : Nat), q ≤ n ∧ 0 ≤ hh ∧ hh ≤ 1073741823 ∧ hv = .int .i64 hh ∧ i = .int .i64 q) (fun _ i => n - (intOf i).toNat)
  case atStart => exact ⟨2142 + n, 0, Nat.zero_le _, by omega, by omega, rfl, rfl⟩
  case round =>
    obtain ⟨hh, q, hq, h0, h1, rfl, rfl⟩ := hrel
    by_cases hlt : q < n
    case neg =>
      obtain rfl : n = q := by omega
      go_wp2
      go_ret
      refine ⟨rfl, ⟨by simp, ⟨0, Nat.zero_le _, by simp⟩, ⟨hh, by simp⟩, by simp, by simp, by simp, HV.out.below ((Below.refl _ w).alloc (Nat.le_refl _) _)⟩, (Below.refl _ w).alloc (Nat.le_refl _) _⟩
    by_cases h4 : q < 4000
    case neg =>
      go_wp2
      go_ret
      refine ⟨rfl, ⟨by simp, ⟨0, Nat.zero_le _, by simp⟩, ⟨hh, by simp⟩, by simp, by simp, by simp, HV.out.below ((Below.refl _ w).alloc (Nat.le_refl _) _)⟩, (Below.refl _ w).alloc (Nat.le_refl _) _⟩
    obtain ⟨b, off, x, rfl, hx0, hx1, hcx, _⟩ := HB.out.at_ hlt
    have hr := and_big (hh * 163 + x + 7)
    go_wp2
    go_round
    case rel => exact ⟨_, q + 1, by omega, hr.1, hr.2, rfl, by go_num⟩
    case measure => simp [intOf]; omega

theorem Cur.keep1 {w : World} {p n : Nat} {v : Value} (h : Cur w p v n) {j : Nat} (hj : j ≤ n) : Cur (w.setCell ⟨p, 1, none⟩ (.int .i64 (j : Int))) p v n ∧ Keep p (p + 1) w (w.setCell ⟨p, 1, none⟩ (.int .i64 (j : Int))) :=
  ⟨h.set1 hj, Keep.setCell (p := ⟨p, 1, none⟩) (Keep.refl p (p + 1) w) (Nat.le_refl p) (Nat.lt_succ_self p) _⟩
theorem Cur.keep2 {w : World} {p n : Nat} {v : Value} (h : Cur w p v n) (y : Int) : Cur (w.setCell ⟨p, 2, none⟩ (.int .i64 y)) p v n ∧ Keep p (p + 1) w (w.setCell ⟨p, 2, none⟩ (.int .i64 y)) :=
  ⟨h.set2 y, Keep.setCell (p := ⟨p, 2, none⟩) (Keep.refl p (p + 1) w) (Nat.le_refl p) (Nat.lt_succ_self p) _⟩
set_option maxHeartbeats 2000000 in
set_option maxRecDepth 100000 in
theorem l01Byte_any (p : Nat) (v : Value) (n : Nat) (w : World) (hc : Cur w p v n) (_hn : n ≤ 1048576) :
    Calls Tryz.prog 50 #[.pointer (some ⟨p, 0, none⟩)] w fun e w' => ∃ x : Int, (0 ≤ x ∧ x ≤ 255) ∧ e = .returned (.int .i64 x) ∧ Cur w' p v n ∧ Keep p (p + 1) w w' := by
  have HN : Hid (∀ y : Int, Cur (w.setCell ⟨p, 2, none⟩ (.int .i64 y)) p v n ∧ Keep p (p + 1) w (w.setCell ⟨p, 2, none⟩ (.int .i64 y))) := fun y => hc.keep2 y
  obtain ⟨h, hh⟩ := hc.h
  have hf2 := hc.f2
  clear hc
  go_enter Tryz.func50, Tryz.ntmps50
  go_wp2
  obtain ⟨hc1, hk1⟩ := HN.out (wrap64 (wrap64 (h * 6364136223846793005) + 1442695040888963407))
  generalize w.setCell ⟨p, 2, none⟩ (Value.int IntKind.i64 (wrap64 (wrap64 (h * 6364136223846793005) + 1442695040888963407))) = w1 at hc1 hk1 ⊢
  have HC := Lib.hid hc1
  have HK := Lib.hid hk1
  obtain ⟨i, hi, hci⟩ := hc1.i
  obtain ⟨h', hh'⟩ := hc1.h
  have hcb := hc1.b
  obtain ⟨A, c, rfl, hle, hmx, HB⟩ := hc1.inb
  have HB := Lib.hid HB
  have hf1 := hc1.f1
  unfold maxLen at hmx
  clear hc1 hk1 hh hf2 HN
  go_quiet (fail)
  go_wp2
  go_quiet (fail)
  by_cases hlt : i < n
  case neg =>
    go_wp2
    go_ret
    exact ⟨_, and_255 _, rfl, (HC.out.drewN _).drewN _, (HK.out.drewN _).drewN _⟩
  obtain ⟨b, off, x, rfl, hx0, hx1, hcx, _⟩ := HB.out.at_ hlt
  have hx := and_255 (bits BinOp.xor IntKind.i64 (h' / 8589934592) (h' / 35184372088832))
  go_wp2
  generalize bits BinOp.and IntKind.i64 (bits BinOp.xor IntKind.i64 (h' / 8589934592) (h' / 35184372088832)) 255 = y at hx ⊢
  go_quiet (fail)
  have hy := and_255 (y + x)
  go_wp2
  go_ret
  exact ⟨_, hy, rfl, (Cur.keep1 (HC.out.drewN _) (j := i + 1) hlt).1, (HK.out.drewN _).trans (Cur.keep1 (HC.out.drewN _) (j := i + 1) hlt).2⟩

set_option maxHeartbeats 2000000 in
set_option maxRecDepth 100000 in
theorem l32New_any (v : Value) (n m : Nat) (w : World) (hv : InB w v n) (hn : n ≤ 1048576) (hm : m ≤ 1048576) :
    Calls Tryz.prog 23 #[v, .int .i64 (m : Int)] w fun e w' => e = .returned (.pointer (some ⟨w.heap.size, 0, none⟩)) ∧ Cur w' w.heap.size v n ∧ Below w.heap.size w w' := by
  have HV := Lib.hid hv
  clear hv
  go_enter Tryz.func23, Tryz.ntmps23
  go_wp2_with (go_at_call 49; refine (l01New_any v n w HV.out hn).mono ?_; rintro e w1 ⟨rfl, hc, hb⟩; have HC : Hid (Cur w1 w.heap.size v n ∧ Below w.heap.size w w1) := ⟨hc, hb⟩; clear hc hb)
  go_loopw [6] (fun i wr => ∃ q : Nat, q ≤ m ∧ i = .int .i64 q ∧ Hid (Cur wr w.heap.size v n ∧ Below w.heap.size w wr)) (fun i _ => m - (intOf i).toNat)
  case atStart => exact ⟨0, Nat.zero_le _, rfl, HC⟩
  case round =>
    obtain ⟨q, hq, rfl, HR⟩ := hrel
    by_cases hlt : q < m
    case neg =>
      go_wp2
      go_ret
      exact ⟨rfl, HR.out.1, HR.out.2⟩
    go_wp2_with (go_at_call 50; refine (l01Byte_any w.heap.size v n _ HR.out.1 hn).mono ?_; rintro e w2 ⟨x, hx, rfl, hc2, hk2⟩; have H2 : Hid (Cur w2 w.heap.size v n ∧ Below w.heap.size w w2) := ⟨hc2, HR.out.2.trans (hk2.below (Nat.le_refl _) (Nat.le_of_lt HR.out.1.lt))⟩; clear hc2 hk2)
    go_round
    case rel => exact ⟨q + 1, by omega, by go_num, H2⟩
    case measure => simp [intOf]; omega
end Go.Proofs.YtofpaekokmkhgaaGreatDoor
namespace Go.Proofs.YtofpaekokmkhgaaGreatDoor
open Go.ChangeShapes Go.WideShapes Go.ChangeAt Go.RowKit

theorem Cur.far {w w2 w5 : World} {p n lo : Nat} {v : Value} (h : Cur w p v n) (h2 : Cur w2 p v n) (hlo : w.heap.size ≤ lo) (hb : Below lo w2 w5) : Cur w5 p v n := by
  obtain ⟨i, hi, hci⟩ := h2.i
  obtain ⟨x, hx⟩ := h2.h
  have hp : p < lo := Nat.lt_of_lt_of_le h.lt hlo
  refine ⟨(hb.cell (p := ⟨p, 0, none⟩) hp).trans h2.b, ⟨i, hi, (hb.cell (p := ⟨p, 1, none⟩) hp).trans hci⟩, ⟨x, (hb.cell (p := ⟨p, 2, none⟩) hp).trans hx⟩, (hb.frozen (p := ⟨p, 1, none⟩) hp).trans h2.f1, (hb.frozen (p := ⟨p, 2, none⟩) hp).trans h2.f2, Nat.lt_of_lt_of_le h2.lt hb.size, ?_⟩
  obtain ⟨A, c, e, h3, h4, h5⟩ := h2.inb
  obtain ⟨A', c', e', _, _, h6⟩ := h.inb
  rw [e] at e'
  injection e' with e1 _ e3
  subst e1
  refine ⟨A, c, e, h3, h4, ?_⟩
  rcases h6 with rfl | ⟨b, off, rfl, h6⟩
  · exact .inl rfl
  · rcases h5 with rfl | ⟨b', off', e4, h5⟩
    · exact .inl rfl
    · injection e4 with e4
      injection e4 with e5 e6 _
      subst e5; subst e6
      refine .inr ⟨b, off, rfl, fun k hk => ?_⟩
      obtain ⟨x, h7, h8, h9⟩ := h5 k hk
      obtain ⟨_, _, _, h10⟩ := h6 k hk
      exact ⟨x, h7, h8, (hb.cell (p := ⟨b, off + k, none⟩) (Nat.lt_of_lt_of_le (block_lt_of_cell h10) hlo)).trans h9⟩
theorem Keep.far {l h lo : Nat} {w w2 w5 : World} (hk : Keep l h w w2) (hb : Below lo w2 w5) (hlo : w.heap.size ≤ lo) : Keep l h w w5 :=
  ⟨hb.os.trans hk.os, hb.tape.trans hk.tape, hb.output.trans hk.output, Nat.le_trans hk.size hb.size, fun k hk' hd => (hb.block k (by omega)).trans (hk.block k hk' hd)⟩
set_option maxHeartbeats 2000000 in
set_option maxRecDepth 100000 in
theorem l01Below_any (p : Nat) (v : Value) (n : Nat) (m : Int) (w : World) (hc : Cur w p v n) (hn : n ≤ 1048576) (h0 : 0 < m) (h1 : m ≤ 256) :
    Calls Tryz.prog 47 #[.pointer (some ⟨p, 0, none⟩), .int .i64 m] w fun e w' => ∃ x : Int, (0 ≤ x ∧ x < m) ∧ e = .returned (.int .i64 x) ∧ Cur w' p v n ∧ Keep p (p + 1) w w' := by
  have HC := Lib.hid hc
  clear hc
  go_enter Tryz.func47, Tryz.ntmps47
  go_wp2_with (go_at_call 50; refine (l01Byte_any p v n _ HC.out hn).mono ?_; rintro e w2 ⟨x, hx, rfl, hc2, hk2⟩; have H2 : Hid (Cur w2 p v n ∧ Keep p (p + 1) w w2) := ⟨hc2, hk2⟩; clear hc2 hk2)
  go_ret
  exact ⟨_, ⟨Int.emod_nonneg _ (by omega), Int.emod_lt_of_pos _ h0⟩, rfl, H2.out.1, H2.out.2⟩
end Go.Proofs.YtofpaekokmkhgaaGreatDoor
namespace Go.Proofs.YtofpaekokmkhgaaGreatDoor
open Go.ChangeShapes Go.WideShapes Go.ChangeAt Go.RowKit

theorem within_any (n lo hi : Int) (w : World) :
    Calls Tryz.prog 55 #[.int .i64 n, .int .i64 lo, .int .i64 hi] w fun e w' => e = .returned (.bool (inB n lo hi)) ∧ w = w' := by
  by_cases h : lo ≤ n
  all_goals
    go_enter Tryz.func55, Tryz.ntmps55
    go_wp2
    go_ret
    exact ⟨by unfold inB; simp [*]; try omega, rfl⟩

theorem l01In_any (n lo hi : Int) (w : World) :
    Calls Tryz.prog 88 #[.int .i64 n, .int .i64 lo, .int .i64 hi] w fun e w' => e = .returned (.bool (inB n lo hi)) ∧ w = w' := by
  by_cases h : lo ≤ n
  all_goals
    go_enter Tryz.func88, Tryz.ntmps88
    go_wp2
    go_ret
    exact ⟨by unfold inB; simp [*]; try omega, rfl⟩

def mOk (i k : Int) : Bool := inB i 1 20 && inB k 1 20
theorem mOk_t {i k : Int} : mOk i k = true ↔ (1 ≤ i ∧ i ≤ 20) ∧ 1 ≤ k ∧ k ≤ 20 := by simp [mOk, inB_t]

set_option maxHeartbeats 400000 in
theorem choose_any (n k : Int) (w : World) (hn : 0 ≤ n) (hn' : n ≤ 50) (hk : 0 ≤ k) :
    Calls Tryz.prog 34 #[.int .i64 n, .int .i64 k] w fun e w' => e = .returned (.int .i64 (bin n.toNat k.toNat)) ∧ w = w' := by
  obtain ⟨n, rfl⟩ := Int.eq_ofNat_of_zero_le hn
  obtain ⟨k, rfl⟩ := Int.eq_ofNat_of_zero_le hk
  rw [Int.toNat_natCast, Int.toNat_natCast]
  by_cases hkn : n < k
  · go_enter Tryz.func34, Tryz.ntmps34
    go_wp2
    go_ret
    exact ⟨ret_int (by rw [bin_lt n k hkn]; rfl), rfl⟩
  · go_enter Tryz.func34, Tryz.ntmps34
    go_wp2
    go_loop [5, 11] (fun o i => ∃ j : Nat, j ≤ k ∧ i = .int .i64 j ∧ o = .int .i64 (bin n j : Nat)) (fun _ i => k - (intOf i).toNat)
    case atStart => exact ⟨0, Nat.zero_le _, rfl, by rw [bin_zero]; rfl⟩
    case round =>
      obtain ⟨j, hj, rfl, rfl⟩ := hrel
      have hb : (bin n j : Int) ≤ 1125899906842624 := by have := bin_cap (n := n) (by omega) j; omega
      have hb0 : (0 : Int) ≤ (bin n j : Int) := by omega
      by_cases hlt : j < k
      · have hm1 : (0 : Int) ≤ (bin n j : Int) * ((n : Int) - j) := Int.mul_nonneg hb0 (by omega)
        have hm2 : (bin n j : Int) * ((n : Int) - j) ≤ 1125899906842624 * 50 := Int.mul_le_mul hb (by omega) (by omega) (by omega)
        have HS : Hid ((bin n j : Int) * ((n : Int) - j) / ((j : Int) + 1) = (bin n (j + 1) : Nat)) := by
          have h := bin_step n j (by omega)
          have e : ((n : Int) - j) = ((n - j : Nat) : Int) := by omega
          show _ = _
          rw [e, ← h]; push_cast; rfl
        go_wp2
        go_round
        case rel => exact ⟨j + 1, by omega, by go_num, by rw [HS.out]⟩
        case measure => simp [intOf]; omega
      · go_wp2
        go_ret
        obtain rfl : j = k := by omega
        exact ⟨rfl, rfl⟩

def longest (i k : Int) : Int := if mOk i k then i + k - 1 else -1
def shortest (i k : Int) : Int := if mOk i k then min i k else -1
def waysF (i k : Int) : Int := if mOk i k then (ways i.toNat k.toNat : Nat) else -1
def waysIn (i k n : Int) : Int := if mOk i k && inB n 1 (i + k - 1) then (bin (n - 1).toNat (i - 1).toNat : Nat) else -1
def needOf (g : Int) : Int := if inB g 1 39 && g % 2 != 0 then g / 2 + 1 else -1

def shareF (s i k : Int) : Int := if mOk i k && inB s 0 1000000 then s * (ways i.toNat k.toNat : Nat) / 2 ^ ((i + k).toNat - 1) else -1
def evenUpto (i : Nat) : Nat → Nat
  | 0 => 0
  | j + 1 => if 2 * ways i (j + 1) ≤ 2 ^ (i + j) then j + 1 else evenUpto i j
theorem evenUpto_pos (i : Nat) {j : Nat} (h : 0 < j) : evenUpto i j = if 2 * (ways i j : Int) ≤ 2 ^ (i + j - 1) then j else evenUpto i (j - 1) := by
  cases j with
  | zero => omega
  | succ j =>
    rw [evenUpto, show i + (j + 1) - 1 = i + j from by omega, Nat.add_sub_cancel]
    by_cases hc : 2 * ways i (j + 1) ≤ 2 ^ (i + j)
    · have h2 : 2 * (ways i (j + 1) : Int) ≤ 2 ^ (i + j) := by exact_mod_cast hc
      rw [if_pos hc, if_pos h2]
    · have h2 : ¬ 2 * (ways i (j + 1) : Int) ≤ 2 ^ (i + j) := fun h2 => hc (by exact_mod_cast h2)
      rw [if_neg hc, if_neg h2]
def evenF (i m : Int) : Int := if mOk i m then (evenUpto i.toNat m.toNat : Nat) else 0
end Go.Proofs.YtofpaekokmkhgaaGreatDoor
