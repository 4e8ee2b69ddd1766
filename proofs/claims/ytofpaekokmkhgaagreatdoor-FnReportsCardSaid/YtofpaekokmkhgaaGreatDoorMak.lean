/- Orders with few reversals: the cost of a first player: plain facts and contracts. -/
import Derived.Test.YtofpaekokmkhgaaGreatDoorMai
import Derived.Test.YtofpaekokmkhgaaGreatDoorMaj
import Derived.Test.YtofpaekokmkhgaaGreatDoorStd
namespace Go.Proofs.YtofpaekokmkhgaaGreatDoor
open Go.ChangeShapes Go.WideShapes Go.ChangeAt Go.RowKit

/-- Those who beat a player, as a set. -/
def lossN (n w a : Nat) : Nat := 2 ^ n - 1 - w - 2 ^ a
theorem loss_all : ∀ n : Fin 9, ∀ a : Fin 8, ∀ w : Fin 256, a.val < n.val → w.val < 2 ^ n.val → w.val.testBit a.val = false →
    w.val + 2 ^ a.val + 1 ≤ 2 ^ n.val ∧ ∀ b : Fin 8, (lossN n.val w.val a.val).testBit b.val = (decide (b.val < n.val) && (!w.val.testBit b.val && b.val != a.val)) := by decide +kernel
theorem loss_ok {n a w : Nat} (hn : n ≤ 8) (ha : a < n) (hw : w < 2 ^ n) (hb : w.testBit a = false) :
    w + 2 ^ a + 1 ≤ 2 ^ n ∧ ∀ b, b < 8 → (lossN n w a).testBit b = (decide (b < n) && (!w.testBit b && b != a)) := by
  have h8 : (2 : Nat) ^ n ≤ 256 := Nat.pow_le_pow_right (by omega) hn
  have h := loss_all ⟨n, by omega⟩ ⟨a, by omega⟩ ⟨w, by omega⟩ ha hw hb
  exact ⟨h.1, fun b hb8 => h.2 ⟨b, hb8⟩⟩
theorem i64_small (n : Int) (h₀ : 0 ≤ n) (h₁ : n < 2 ^ 8) : IntKind.i64.wrap n = n := by rw [IntKind.wrap_i64]; omega
theorem and_small {a b : Nat} (ha : a < 256) (hb : b < 256) : bits BinOp.and IntKind.i64 (a : Int) (b : Int) = ((a &&& b : Nat) : Int) := (bits_nat .i64 8 (by decide) i64_small a b ha hb).1
theorem andNot_small {s w : Nat} (hs : s < 256) (_hw : w < 256) : bits BinOp.andNot IntKind.i64 (s : Int) (w : Int) = ((s &&& (255 ^^^ w) : Nat) : Int) := by
  have h1 : (BitVec.ofInt 64 (s : Int) &&& ~~~BitVec.ofInt 64 (w : Int)).toNat = s &&& (255 ^^^ w) := by
    apply Nat.eq_of_testBit_eq
    intro i
    have e : (BitVec.ofInt 64 (s : Int) &&& ~~~BitVec.ofInt 64 (w : Int)).toNat.testBit i = (BitVec.ofInt 64 (s : Int) &&& ~~~BitVec.ofInt 64 (w : Int)).getLsbD i := rfl
    rw [e, BitVec.getLsbD_and, BitVec.getLsbD_not, BitVec.ofInt_natCast, BitVec.ofInt_natCast, BitVec.getLsbD_ofNat, BitVec.getLsbD_ofNat, Nat.testBit_and, Nat.testBit_xor]
    by_cases hi : i < 8
    · have h255 : ∀ i : Fin 8, (255 : Nat).testBit i.val = true := by decide
      rw [h255 ⟨i, hi⟩]
      have : i < 64 := by omega
      simp [this]
    · rw [bit_hi hs (by omega)]; simp
  show IntKind.i64.wrap ((BitVec.ofInt 64 (s : Int) &&& ~~~BitVec.ofInt 64 (w : Int)).toNat : Int) = _
  rw [h1]
  have h2 : s &&& (255 ^^^ w) ≤ s := Nat.and_le_left
  rw [IntKind.wrap_i64]; omega
def winN (x : TourV) (a : Nat) : Nat := (x.wins.getD a 0).toNat
theorem win_at {w : World} {A : Option Addr} {x : TourV} (hok : tourB x = true) {a : Nat} (hs : SlI w A x.wins) (ha : a < x.wins.length) :
    ∃ b off, A = some ⟨b, off, none⟩ ∧ w.cell? ⟨b, off + a, none⟩ = some (.int .i64 (winN x a : Nat)) ∧ b < w.heap.size ∧ winN x a < 2 ^ x.wins.length ∧ (winN x a).testBit a = false := by
  obtain ⟨h1, h2, h3, h4, h5⟩ := tourB_t hok
  obtain ⟨b, off, y, rfl, hy, c1, hlt⟩ := hs.at_ ha
  have hin := inB_t.1 (List.all_eq_true.1 h4 y (List.mem_of_getElem? hy))
  have e : winN x a = y.toNat := by rw [winN, List.getD_eq_getElem?_getD, hy]; rfl
  have hirr := tourB_irr hok ha
  rw [bt, List.getD_eq_getElem?_getD, hy] at hirr
  refine ⟨b, off, rfl, by rw [e, Int.toNat_of_nonneg hin.1]; exact c1, hlt, ?_, by rw [e]; exact hirr⟩
  have h6 : (2 : Int) ^ x.wins.length = ((2 ^ x.wins.length : Nat) : Int) := by rw [Int.natCast_pow]; rfl
  rw [h6] at hin
  rw [e]
  omega

set_option maxHeartbeats 2000000 in
set_option maxRecDepth 100000 in
theorem losses_any (v : Value) (x : TourV) (a : Nat) (w : World) (hs : InT w v x) (hok : tourB x = true) (ha : a < x.wins.length) :
    Calls Tryz.prog 67 #[v, .int .i64 (a : Int)] w fun e w' => e = .returned (.int .i64 (lossN x.wins.length (winN x a) a : Nat)) ∧ Below w.heap.size w w' := by
  obtain ⟨u, rfl, A, c, rfl, hc, hm, hsl⟩ := hs
  obtain ⟨t1, t2, t3, _, _⟩ := tourB_t hok
  obtain ⟨b, off, rfl, qc, hlt, hw2, hwb⟩ := win_at hok hsl ha
  have hn8 : x.wins.length ≤ 8 := by omega
  have hl := (loss_ok hn8 ha hw2 hwb).1
  have h256 : (2 : Nat) ^ x.wins.length ≤ 256 := Nat.pow_le_pow_right (by omega) hn8
  obtain ⟨sz, xs⟩ := x
  simp only at *
  subst t3
  generalize winN ⟨(xs.length : Int), xs⟩ a = W at *
  have hT2 : (2 : Int) ^ xs.length = ((2 ^ xs.length : Nat) : Int) := by rw [Int.natCast_pow]; rfl
  have hQ2 : (2 : Int) ^ a = ((2 ^ a : Nat) : Int) := by rw [Int.natCast_pow]; rfl
  obtain ⟨T, HT⟩ : ∃ T : Nat, Hid (2 ^ xs.length = T) := ⟨_, rfl⟩
  obtain ⟨Q, HQ⟩ : ∃ Q : Nat, Hid (2 ^ a = Q) := ⟨_, rfl⟩
  rw [HT.out] at hl h256 hT2
  rw [HQ.out] at hl hQ2
  have HL : Hid (((lossN xs.length W a : Nat) : Int) = (T : Int) - 1 - W - Q) := by
    show _ = _
    rw [lossN, HT.out, HQ.out]; omega
  have hal : (a : Int) < xs.length := by omega
  have e1 : IntKind.i64.wrap (T : Int) = T := by rw [IntKind.wrap_i64]; omega
  have e2 : IntKind.i64.wrap ((T : Int) - 1) = T - 1 := by rw [IntKind.wrap_i64]; omega
  have e3 : IntKind.i64.wrap ((T : Int) - 1 - W) = T - 1 - W := by rw [IntKind.wrap_i64]; omega
  have e4 : IntKind.i64.wrap (Q : Int) = Q := by rw [IntKind.wrap_i64]; omega
  have e5 : IntKind.i64.wrap ((T : Int) - 1 - W - Q) = T - 1 - W - Q := by rw [IntKind.wrap_i64]; omega
  have hne : ¬ b = w.heap.size := by omega
  clear hsl hwb
  go_enter Tryz.func67, Tryz.ntmps67
  go_wp2_with fail
  go_quiet (fail)
  go_wp2
  go_ret
  exact ⟨ret_int HL.out.symm, below_drewN ((Below.refl _ w).alloc (Nat.le_refl _) _) _⟩

/-- The reversals of a player ahead of a set. -/
def costN (x : TourV) (a s : Nat) : Nat := cntL (s &&& lossN x.wins.length (winN x a) a)
set_option maxHeartbeats 2000000 in
set_option maxRecDepth 100000 in
theorem firstCost_any (v : Value) (x : TourV) (a s : Nat) (w : World) (hs : InT w v x) (hok : tourB x = true) (ha : a < x.wins.length) (hs8 : s < 256) :
    Calls Tryz.prog 38 #[v, .int .i64 (a : Int), .int .i64 (s : Int)] w fun e w' => e = .returned (.int .i64 (costN x a s : Nat)) ∧ Below w.heap.size w w' := by
  have HS := Lib.hid hs
  obtain ⟨u, rfl, A, c, rfl, hc, hm, hsl⟩ := hs
  obtain ⟨t1, t2, t3, _, _⟩ := tourB_t hok
  have HB0 : Hid (Below w.heap.size w (w.alloc (.cells #[.int .i64 x.size, .slice A x.wins.length c] 25))) := (Below.refl _ w).alloc (Nat.le_refl _) _
  have HLO := Lib.hid (losses_any _ x a _ (HS.out.below HB0.out) hok ha)
  have hl256 : lossN x.wins.length (winN x a) a < 256 := by
    have hn8 : x.wins.length ≤ 8 := by omega
    have h8 : (2 : Nat) ^ x.wins.length ≤ 256 := Nat.pow_le_pow_right (by omega) hn8
    unfold lossN
    generalize 2 ^ x.wins.length = T at *
    generalize 2 ^ a = Q at *
    omega
  have hand := and_small hs8 hl256
  have hc256 : s &&& lossN x.wins.length (winN x a) a < 256 := Nat.lt_of_le_of_lt Nat.and_le_left hs8
  have HCO := Lib.hid (fun W => onesCount_any _ W hc256)
  have HE : Hid (costN x a s = cntL (s &&& lossN x.wins.length (winN x a) a)) := rfl
  generalize lossN x.wins.length (winN x a) a = L at *
  obtain ⟨M, hM⟩ : ∃ M, s &&& L = M := ⟨_, rfl⟩
  rw [hM] at hand hc256 HCO HE
  obtain ⟨C, hC⟩ : ∃ C, cntL M = C := ⟨_, rfl⟩
  rw [hC] at HCO HE
  clear hM hC hsl hok
  go_enter Tryz.func38, Tryz.ntmps38
  go_wp2_with (first
    | (go_at_call 67; refine HLO.out.mono ?_; rintro e w1 ⟨rfl, hb⟩; have HB := Lib.hid (HB0.out.trans (hb.mono (by simp))); clear hb)
    | (go_at_call 62; refine (HCO.out _).mono ?_; rintro e w' ⟨rfl, rfl⟩))
  go_ret
  exact ⟨by rw [HE.out]; rfl, HB.out⟩
end Go.Proofs.YtofpaekokmkhgaaGreatDoor
namespace Go.Proofs.YtofpaekokmkhgaaGreatDoor
open Go.ChangeShapes Go.WideShapes Go.ChangeAt Go.RowKit

/-- The place of x in xs, -1 if it is not there. -/
def plc (xs : List Int) (x : Int) : Int := idxF (fun y => x == y) xs
theorem plc_comm (xs : List Int) (x : Int) : idxF (fun y => y == x) xs = plc xs x := by
  have : (fun y : Int => y == x) = (fun y => x == y) := by funext y; exact Bool.beq_comm
  rw [this]; rfl
theorem plc_bd (xs : List Int) (x : Int) : -1 ≤ plc xs x ∧ plc xs x < xs.length := by
  unfold plc idxF
  cases h : xs.findIdx? (fun y => x == y) with
  | none => exact ⟨by decide, by show (-1 : Int) < _; omega⟩
  | some k =>
    rw [List.findIdx?_eq_some_iff_getElem] at h
    obtain ⟨hk, _⟩ := h
    exact ⟨by show (-1 : Int) ≤ (k : Int); omega, by show (k : Int) < _; omega⟩
theorem plc_ge (xs : List Int) (x : Int) : decide (0 ≤ plc xs x) = xs.contains x := by
  unfold plc; rw [idxF_ge, Bool.eq_iff_iff]; simp
theorem all_ne_of {xs : List Int} {k : Nat} {x y : Int} (h : (xs.take k).all (fun y => !(x == y)) = true) (hy : xs[k]? = some y) (he : (x == y) = false) : (xs.take (k + 1)).all (fun y => !(x == y)) = true :=
  all_take_snoc h hy (by rw [he]; rfl)

def newAt (n : Nat) (xs : List Int) (k : Nat) : Bool := inB (xs.getD k 0) 0 ((n : Int) - 1) && !(xs.take k).contains (xs.getD k 0)
def permB (xs : List Int) : Bool := (List.range xs.length).all (newAt xs.length xs)
theorem newAt_get {n : Nat} {xs : List Int} {k : Nat} {x : Int} (h : xs[k]? = some x) : newAt n xs k = (inB x 0 ((n : Int) - 1) && !(xs.take k).contains x) := by
  simp [newAt, List.getD_eq_getElem?_getD, h]
theorem permB_false {xs : List Int} {k : Nat} {x : Int} (h : xs[k]? = some x) (hb : (inB x 0 ((xs.length : Int) - 1) && !(xs.take k).contains x) = false) : permB xs = false := by
  unfold permB
  rw [List.all_eq_false]
  have hk : k < xs.length := by
    rcases Nat.lt_or_ge k xs.length with h' | h'
    · exact h'
    · rw [List.getElem?_eq_none h'] at h; cases h
  exact ⟨k, List.mem_range.2 hk, by rw [newAt_get h, hb]; simp⟩
theorem permB_upto {xs : List Int} (h : ∀ k, k < xs.length → newAt xs.length xs k = true) : permB xs = true := by
  unfold permB; rw [List.all_eq_true]; intro k hk; exact h k (List.mem_range.1 hk)
theorem permB_t {xs : List Int} (h : permB xs = true) : (∀ x ∈ xs, 0 ≤ x ∧ x < xs.length) ∧ xs.Nodup := by
  unfold permB at h
  rw [List.all_eq_true] at h
  have hk : ∀ k (hk : k < xs.length), inB xs[k] 0 ((xs.length : Int) - 1) = true ∧ xs[k] ∉ xs.take k := by
    intro k hk
    have := h k (List.mem_range.2 hk)
    rw [newAt_get (List.getElem?_eq_getElem hk)] at this
    simpa using this
  refine ⟨fun x hx => ?_, ?_⟩
  · obtain ⟨k, hk', rfl⟩ := List.getElem_of_mem hx
    have := inB_t.1 (hk k hk').1
    omega
  · rw [List.nodup_iff_pairwise_ne, List.pairwise_iff_getElem]
    intro i j hi hj hij he
    refine (hk j hj).2 ?_
    rw [← he, List.mem_take_iff_getElem]
    exact ⟨i, by omega, rfl⟩
theorem permB_mk {xs : List Int} (h1 : ∀ x ∈ xs, 0 ≤ x ∧ x < xs.length) (h2 : xs.Nodup) : permB xs = true := by
  refine permB_upto fun k hk => ?_
  rw [newAt_get (List.getElem?_eq_getElem hk)]
  have hb := h1 xs[k] (List.getElem_mem _)
  rw [inB_mk hb.1 (by omega)]
  simp only [Bool.true_and, Bool.not_eq_true', List.contains_eq_mem, decide_eq_false_iff_not]
  intro hm
  rw [List.mem_take_iff_getElem] at hm
  obtain ⟨i, hi, he⟩ := hm
  rw [List.nodup_iff_pairwise_ne, List.pairwise_iff_getElem] at h2
  exact h2 i k (by omega) hk (by omega) he
def ladB (xs : List Int) : Bool := inB xs.length 1 8 && permB xs
theorem ladB_t {xs : List Int} (h : ladB xs = true) : (1 ≤ xs.length ∧ xs.length ≤ 8) ∧ (∀ x ∈ xs, 0 ≤ x ∧ x < xs.length) ∧ xs.Nodup := by
  simp only [ladB, Bool.and_eq_true, inB_t] at h
  exact ⟨⟨by omega, by omega⟩, permB_t h.2⟩
theorem ladB_mk {xs : List Int} (h0 : 1 ≤ xs.length) (h8 : xs.length ≤ 8) (h1 : ∀ x ∈ xs, 0 ≤ x ∧ x < xs.length) (h2 : xs.Nodup) : ladB xs = true := by
  simp only [ladB, Bool.and_eq_true, inB_t]
  exact ⟨⟨by omega, by omega⟩, permB_mk h1 h2⟩

/-- 'make([]T, n)' at elements of one cell. -/
theorem makeV (t e : TypeId) (z : Value) (bytes : Nat) (hu : Tryz.prog.underlying t = some (.slice e)) (hinfo : (Tryz.prog.info? e).map (fun i => (i.zero, i.size, i.bytes)) = some (some z, 1, bytes)) (hzc : z.cells = #[z]) (hby : bytes ≤ 64)
    {ops : Array Oper} {rest : List Oper} {o : Oper} {a : Act} {Q : Exit → Act → World → Prop} (hgd : o.guard = none) (l c : Operand)
    (ho : o.op = Op.makeSlice t l c) (w : World) (n : Nat) (hl : a.eval l = .int .i64 n) (hc : a.eval c = .int .i64 n) (hn : n ≤ 1048576)
    (h : ∀ w', w'.ownsRow w.heap.size e 1 (.slice (some ⟨w.heap.size, 0, none⟩) n n) n (List.replicate n z) → Below w.heap.size w w' → w'.heap.size = w.heap.size + 1 → wpList Tryz.prog ops Q rest (a.put o.dst (.slice (some ⟨w.heap.size, 0, none⟩) n n)) w') :
    wpList Tryz.prog ops Q (o :: rest) a w := by
  obtain ⟨i0, hi, hz0, hz1, hz2⟩ := info_parts hinfo
  refine wpList_plain hgd fun K hK' => ?_
  have hb : (bytes : Int) * (n : Int) ≤ 281474976710656 := by
    have h1 : bytes * n ≤ 64 * 1048576 := Nat.mul_le_mul hby hn
    have h2 : ((bytes * n : Nat) : Int) ≤ 281474976710656 := by omega
    rwa [Int.natCast_mul] at h2
  have hr := run_make (P := Tryz.prog) w t e i0 z hu hi hz0 .i64 .i64 n n (by omega) (Int.le_refl _) (by rw [hz2]; exact hb) (by omega)
  simp only [Int.toNat_natCast] at hr
  unfold Oper.wp
  simp [execOp, ho, hl, hc, hr, Result.andThen]
  refine hK' _ _ (h _ ?_ ((Below.refl _ w).alloc (Nat.le_refl _) _) (by simp))
  rw [hz1]
  have h1 := World.ownsRow_lit (base := w.heap.size) (e := e) (size := 1) w (madeCells z.cells (n * 1)) n (Nat.le_refl _) (by unfold maxLen; omega) (size_madeCells _ _)
  have e : (madeCells z.cells (n * 1)).toList = List.replicate n z := by
    rw [hzc, toList_madeCells_one, Nat.mul_one]
  rw [e] at h1
  exact h1
theorem own_get {w : World} {lo g n c : Nat} {e : TypeId} {vs : List Value} (h : w.ownsRow lo e 1 (.slice (some ⟨g, 0, none⟩) n c) n vs) {k : Nat} (hk : k < n) (u : Value) :
    ∃ x, vs[k]? = some x ∧ w.cell? ⟨g, k, none⟩ = some x ∧ w.frozen? ⟨g, k, none⟩ = false ∧ (w.setCell ⟨g, k, none⟩ u).ownsRow lo e 1 (.slice (some ⟨g, 0, none⟩) n c) n (vs.set k u) ∧ Keep g (g + 1) w (w.setCell ⟨g, k, none⟩ u) := by
  have hl : vs.length = n := by simpa using h.1
  refine ⟨vs[k], List.getElem?_eq_getElem (by omega), ?_, h.frozenAt k, (h.stored k u).1, (Keep.refl _ _ _).setCell (p := ⟨g, k, none⟩) (Nat.le_refl _) (Nat.lt_succ_self _) _⟩
  rw [h.cellAt k (by omega)]; exact List.getElem?_eq_getElem (by omega)

def twoB (a b : List Int) : Bool := ladB a && (ladB b && decide (a.length = b.length))
theorem twoB_t {a b : List Int} (h : twoB a b = true) : ladB a = true ∧ ladB b = true ∧ a.length = b.length := by
  simp only [twoB, Bool.and_eq_true, decide_eq_true_eq] at h; exact h
end Go.Proofs.YtofpaekokmkhgaaGreatDoor
