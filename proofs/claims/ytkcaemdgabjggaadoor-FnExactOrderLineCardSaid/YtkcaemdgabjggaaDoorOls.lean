/- Orders with few reversals: the cost of a first player: plain facts and contracts. -/
import Derived.Test.YtkcaemdgabjggaaDoorPop
import Derived.Test.YtkcaemdgabjggaaDoorTo
import Derived.Test.YtkcaemdgabjggaaDoorTq
import Derived.Test.YtkcaemdgabjggaaDoorTs
namespace Go.Proofs.YtkcaemdgabjggaaDoor
open Go.ChangeShapes Go.WideShapes Go.ChangeAt Go.RowKit

/-- Those who beat a player, as a set. -/
def lossN (n w a : Nat) : Nat := 2 ^ n - 1 - w - 2 ^ a
theorem loss_all : ∀ n : Fin 9, ∀ a : Fin 8, ∀ w : Fin 256, a.val < n.val → w.val < 2 ^ n.val → w.val.testBit a.val = false →
    w.val + 2 ^ a.val + 1 ≤ 2 ^ n.val ∧ ∀ b : Fin 8, (lossN n.val w.val a.val).testBit b.val = (decide (b.val < n.val) && (!w.val.testBit b.val && b.val != a.val)) := by decide +kernel
theorem loss_ok {n a w : Nat} (hn : n ≤ 8) (ha : a < n) (hw : w < 2 ^ n) (hb : w.testBit a = false) :
    w + 2 ^ a + 1 ≤ 2 ^ n ∧ ∀ b, b < 8 → (lossN n w a).testBit b = (decide (b < n) && (!w.testBit b && b != a)) := by
  have h8 : (2 : Nat) ^ n ≤ 256 := Nat.pow_le_pow_right (by omega) hn
  have h := loss_all ⟨n, by omega⟩ ⟨a, by omega⟩ ⟨w, by omega⟩ ha hw hb
  exact ⟨h.1, fun b hb8 => h.2 ⟨b, hb8⟩⟩
theorem i64_small (n : Int) (h₀ : 0 ≤ n) (h₁ : n < 2 ^ 8) : IntKind.i64.wrap n = n := by rw [IntKind.wrap_i64]; omega
theorem and_small {a b : Nat} (ha : a < 256) (hb : b < 256) : bits BinOp.and IntKind.i64 (a : Int) (b : Int) = ((a &&& b : Nat) : Int) := (bits_nat .i64 8 (by decide) i64_small a b ha hb).1
theorem andNot_small {s w : Nat} (hs : s < 256) (_hw : w < 256) : bits BinOp.andNot IntKind.i64 (s : Int) (w : Int) = ((s &&& (255 ^^^ w) : Nat) : Int) := by
  have h1 : (BitVec.ofInt 64 (s : Int) &&& ~~~BitVec.ofInt 64 (w : Int)).toNat = s &&& (255 ^^^ w) := by
    apply Nat.eq_of_testBit_eq
    intro i
    have e : (BitVec.ofInt 64 (s : Int) &&& ~~~BitVec.ofInt 64 (w : Int)).toNat.testBit i = (BitVec.ofInt 64 (s : Int) &&& ~~~BitVec.ofInt 64 (w : Int)).getLsbD i := rfl
    rw [e, BitVec.getLsbD_and, BitVec.getLsbD_not, BitVec.ofInt_natCast, BitVec.ofInt_natCast, BitVec.getLsbD_ofNat, BitVec.getLsbD_ofNat, Nat.testBit_and, Nat.testBit_xor]
    by_cases hi : i < 8
    · have h255 : ∀ i : Fin 8, (255 : Nat).testBit i.val = true := by decide
      rw [h255 ⟨i, hi⟩]
      have : i < 64 := by omega
      simp [this]
    · rw [bit_hi hs (by omega)]; simp
  show IntKind.i64.wrap ((BitVec.ofInt 64 (s : Int) &&& ~~~BitVec.ofInt 64 (w : Int)).toNat : Int) = _
  rw [h1]
  have h2 : s &&& (255 ^^^ w) ≤ s := Nat.and_le_left
  rw [IntKind.wrap_i64]; omega
def winN (x : TourV) (a : Nat) : Nat := (x.wins.getD a 0).toNat
theorem win_at {w : World} {A : Option Addr} {x : TourV} (hok : tourB x = true) {a : Nat} (hs : SlI w A x.wins) (ha : a < x.wins.length) :
    ∃ b off, A = some ⟨b, off, none⟩ ∧ w.cell? ⟨b, off + a, none⟩ = some (.int .i64 (winN x a : Nat)) ∧ b < w.heap.size ∧ winN x a < 2 ^ x.wins.length ∧ (winN x a).testBit a = false := by
  obtain ⟨h1, h2, h3, h4, h5⟩ := tourB_t hok
  obtain ⟨b, off, y, rfl, hy, c1, hlt⟩ := hs.at_ ha
  have hin := inB_t.1 (List.all_eq_true.1 h4 y (List.mem_of_getElem? hy))
  have e : winN x a = y.toNat := by rw [winN, List.getD_eq_getElem?_getD, hy]; rfl
  have hirr := tourB_irr hok ha
  rw [bt, List.getD_eq_getElem?_getD, hy] at hirr
  refine ⟨b, off, rfl, by rw [e, Int.toNat_of_nonneg hin.1]; exact c1, hlt, ?_, by rw [e]; exact hirr⟩
  have h6 : (2 : Int) ^ x.wins.length = ((2 ^ x.wins.length : Nat) : Int) := by rw [Int.natCast_pow]; rfl
  rw [h6] at hin
  rw [e]
  omega

set_option maxHeartbeats 2000000 in
set_option maxRecDepth 100000 in
theorem losses_any (v : Value) (x : TourV) (a : Nat) (w : World) (hs : InT w v x) (hok : tourB x = true) (ha : a < x.wins.length) :
    Calls Tryd.prog 40 #[v, .int .i64 (a : Int)] w fun e w' => e = .returned (.int .i64 (lossN x.wins.length (winN x a) a : Nat)) ∧ Below w.heap.size w w' := by
  obtain ⟨u, rfl, A, c, rfl, hc, hm, hsl⟩ := hs
  obtain ⟨t1, t2, t3, _, _⟩ := tourB_t hok
  obtain ⟨b, off, rfl, qc, hlt, hw2, hwb⟩ := win_at hok hsl ha
  have hn8 : x.wins.length ≤ 8 := by omega
  have hl := (loss_ok hn8 ha hw2 hwb).1
  have h256 : (2 : Nat) ^ x.wins.length ≤ 256 := Nat.pow_le_pow_right (by omega) hn8
  obtain ⟨sz, xs⟩ := x
  simp only at *
  subst t3
  generalize winN ⟨(xs.length : Int), xs⟩ a = W at *
  have hT2 : (2 : Int) ^ xs.length = ((2 ^ xs.length : Nat) : Int) := by rw [Int.natCast_pow]; rfl
  have hQ2 : (2 : Int) ^ a = ((2 ^ a : Nat) : Int) := by rw [Int.natCast_pow]; rfl
  obtain ⟨T, HT⟩ : ∃ T : Nat, Hid (2 ^ xs.length = T) := ⟨_, rfl⟩
  obtain ⟨Q, HQ⟩ : ∃ Q : Nat, Hid (2 ^ a = Q) := ⟨_, rfl⟩
  rw [HT.out] at hl h256 hT2
  rw [HQ.out] at hl hQ2
  have HL : Hid (((lossN xs.length W a : Nat) : Int) = (T : Int) - 1 - W - Q) := by
    show _ = _
    rw [lossN, HT.out, HQ.out]; omega
  have hal : (a : Int) < xs.length := by omega
  have e1 : IntKind.i64.wrap (T : Int) = T := by rw [IntKind.wrap_i64]; omega
  have e2 : IntKind.i64.wrap ((T : Int) - 1) = T - 1 := by rw [IntKind.wrap_i64]; omega
  have e3 : IntKind.i64.wrap ((T : Int) - 1 - W) = T - 1 - W := by rw [IntKind.wrap_i64]; omega
  have e4 : IntKind.i64.wrap (Q : Int) = Q := by rw [IntKind.wrap_i64]; omega
  have e5 : IntKind.i64.wrap ((T : Int) - 1 - W - Q) = T - 1 - W - Q := by rw [IntKind.wrap_i64]; omega
  have hne : ¬ b = w.heap.size := by omega
  clear hsl hwb
  go_enter Tryd.func40, Tryd.ntmps40
  go_wp2_with fail
  go_quiet (fail)
  go_wp2
  go_ret
  exact ⟨ret_int HL.out.symm, below_drewN ((Below.refl _ w).alloc (Nat.le_refl _) _) _⟩

/-- The reversals of a player ahead of a set. -/
def costN (x : TourV) (a s : Nat) : Nat := cntL (s &&& lossN x.wins.length (winN x a) a)
set_option maxHeartbeats 2000000 in
set_option maxRecDepth 100000 in
theorem firstCost_any (v : Value) (x : TourV) (a s : Nat) (w : World) (hs : InT w v x) (hok : tourB x = true) (ha : a < x.wins.length) (hs8 : s < 256) :
    Calls Tryd.prog 34 #[v, .int .i64 (a : Int), .int .i64 (s : Int)] w fun e w' => e = .returned (.int .i64 (costN x a s : Nat)) ∧ Below w.heap.size w w' := by
  have HS := Lib.hid hs
  obtain ⟨u, rfl, A, c, rfl, hc, hm, hsl⟩ := hs
  obtain ⟨t1, t2, t3, _, _⟩ := tourB_t hok
  have HB0 : Hid (Below w.heap.size w (w.alloc (.cells #[.int .i64 x.size, .slice A x.wins.length c] 27))) := (Below.refl _ w).alloc (Nat.le_refl _) _
  have HLO := Lib.hid (losses_any _ x a _ (HS.out.below HB0.out) hok ha)
  have hl256 : lossN x.wins.length (winN x a) a < 256 := by
    have hn8 : x.wins.length ≤ 8 := by omega
    have h8 : (2 : Nat) ^ x.wins.length ≤ 256 := Nat.pow_le_pow_right (by omega) hn8
    unfold lossN
    generalize 2 ^ x.wins.length = T at *
    generalize 2 ^ a = Q at *
    omega
  have hand := and_small hs8 hl256
  have hc256 : s &&& lossN x.wins.length (winN x a) a < 256 := Nat.lt_of_le_of_lt Nat.and_le_left hs8
  have HCO := Lib.hid (fun W => onesCount_any _ W hc256)
  have HE : Hid (costN x a s = cntL (s &&& lossN x.wins.length (winN x a) a)) := rfl
  generalize lossN x.wins.length (winN x a) a = L at *
  obtain ⟨M, hM⟩ : ∃ M, s &&& L = M := ⟨_, rfl⟩
  rw [hM] at hand hc256 HCO HE
  obtain ⟨C, hC⟩ : ∃ C, cntL M = C := ⟨_, rfl⟩
  rw [hC] at HCO HE
  clear hM hC hsl hok
  go_enter Tryd.func34, Tryd.ntmps34
  go_wp2_with (first
    | (go_at_call 40; refine HLO.out.mono ?_; rintro e w1 ⟨rfl, hb⟩; have HB := Lib.hid (HB0.out.trans (hb.mono (by simp))); clear hb)
    | (go_at_call 39; refine (HCO.out _).mono ?_; rintro e w' ⟨rfl, rfl⟩))
  go_ret
  exact ⟨by rw [HE.out]; rfl, HB.out⟩
end Go.Proofs.YtkcaemdgabjggaaDoor
