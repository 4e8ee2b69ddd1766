/- Tours that are drawn from a code: one result turned round. -/
import Derived.Test.YtofpaekokmkhgaaGreatDoorMay
import Derived.Deep.RegionLaw
import Derived.Deep.RegionHeld3
import Derived.Deep.Cut
import Derived.Deep.CutRange
namespace Go.Proofs.YtofpaekokmkhgaaGreatDoor
open Go.ChangeShapes Go.WideShapes Go.ChangeAt Go.RowKit

set_option maxRecDepth 100000 in
/-- 'append(out, src...)' at a row of the call's own, as a step of a region that draws. -/
theorem stepAppC {ops : Array Oper} {o : Oper} {a : Act} {w : World} {K : Act → World → Prop} {Q : Exit → Act → World → Prop} {E : Prop} (hgd : o.guard = none) (s y : Operand)
    (ho : o.op = .call { callee := .builtin .append, args := #[s, y], argTypes := #[23, 23] })
    (base : Nat) (v : Value) (n : Nat) (xs : List Int) (hs : a.eval s = v) (hown : w.ownsRow base 3 1 v n (ints xs)) (ad : Addr) (m c : Nat) (ys : List Int) (hm : ys.length = m)
    (hx : a.eval y = .slice (some ad) m c) (hys : SlI w (some ad) ys) (hl : n + m ≤ 1048576) (hbase : base ≤ w.heap.size)
    (h : ∀ v' w', w'.ownsRow base 3 1 v' (n + m) (ints (xs ++ ys)) → (∀ B, B ≤ base → B ≤ w.heap.size → Below B w w') → w.grownBy w' v.ownBlock → K (a.put o.dst v') w') :
    if Region.wanted o (yielded ops a.tmps) = true then Oper.wp Tryz.prog o a w K Q else E := by
  obtain ⟨i0, hi, hz0, hz1, hz2⟩ := info_parts infoInt
  have hw : Region.wanted o (yielded ops a.tmps) = true := by simp [Region.wanted, hgd]
  rw [if_pos hw]
  obtain ⟨v', w', hrun, r1, r2, _⟩ := run_append_own (P := Tryz.prog) w base 23 o.type 3 i0 _ 1 8 Tryz.underlying23 hi hz0 hz1 hz2 rfl (by decide) v n (ints xs) hown ad m c (ints ys) (by simp [ints, hm]) (by
    intro j u hj
    rcases hys with rfl | ⟨b, off, hA, hc⟩
    · simp [ints] at hj
    · injection hA with hA
      subst hA
      simp only [ints, List.getElem?_map, Option.map_eq_some_iff] at hj
      obtain ⟨y, hy, rfl⟩ := hj
      rw [Go.WideShapes.add_plain]; exact hc j y hy) (by
    intro u hu
    simp only [ints, List.mem_map] at hu
    obtain ⟨y, _, rfl⟩ := hu; rfl) (by unfold maxLen; omega) (by omega) hbase
  unfold Oper.wp
  simp [execOp, ho, resolve, invoke, builtin, hs, hx, hrun, Result.andThen]
  refine h v' w' (by rw [ints_append]; exact r1) (fun B h4 h5 => ?_) r2
  refine (Below.refl B w).grown r2 h5 (fun k hk => ?_)
  have := (hown.lt k hk).1; omega

theorem ownsI0 (W : World) (b base : Nat) (hb : b = W.heap.size) (h : base ≤ b) : (W.alloc (.cells #[] 3)).ownsRow base 3 1 (.slice (some ⟨b, 0, none⟩) 0 0) 0 (ints []) := by
  subst hb; exact World.ownsRow_made W #[] 0 h (by unfold maxLen; omega) rfl
theorem ownNeI {w : World} {base g n c p : Nat} {xs : List Value} {a : Array Value} (h : w.ownsRow base 3 1 (.slice (some ⟨g, 0, none⟩) n c) n xs) (hp : w.heap[p]? = some (.cells a 25 (0, 0))) : p ≠ g := by
  rintro rfl
  rcases h.2 with ⟨h, _⟩ | ⟨g', _, cur, h, _, h2, _⟩
  · cases h
  · injection h with h _ _
    injection h with h
    injection h with h _ _
    subst h
    rw [hp] at h2
    injection h2 with h2
    injection h2 with _ h2 _
    exact absurd h2 (by decide)
/-- The box of the argument, the box of the result. -/
structure FlAt (w W : World) (cl : Int) (ad : Addr) (n c : Nat) : Prop where
  y0 : W.cell? ⟨w.heap.size, 0, none⟩ = some (.int .i64 cl)
  y1 : W.cell? ⟨w.heap.size, 1, none⟩ = some (.slice (some ad) n c)
  r0 : W.cell? ⟨w.heap.size + 1, 0, none⟩ = some (.int .i64 0)
  r1 : W.cell? ⟨w.heap.size + 1, 1, none⟩ = some (.slice none 0 0)
  f0 : W.frozen? ⟨w.heap.size + 1, 0, none⟩ = false
  f1 : W.frozen? ⟨w.heap.size + 1, 1, none⟩ = false
  sz : w.heap.size + 2 ≤ W.heap.size
  be : Below w.heap.size w W
theorem FlAt.below {w W W' : World} {cl : Int} {ad : Addr} {n c : Nat} (h : FlAt w W cl ad n c) (hb : Below (w.heap.size + 2) W W') : FlAt w W' cl ad n c :=
  ⟨(hb.cell (p := ⟨w.heap.size, 0, none⟩) (by show w.heap.size < _; omega)).trans h.y0, (hb.cell (p := ⟨w.heap.size, 1, none⟩) (by show w.heap.size < _; omega)).trans h.y1,
   (hb.cell (p := ⟨w.heap.size + 1, 0, none⟩) (by show w.heap.size + 1 < _; omega)).trans h.r0, (hb.cell (p := ⟨w.heap.size + 1, 1, none⟩) (by show w.heap.size + 1 < _; omega)).trans h.r1,
   (hb.frozen (p := ⟨w.heap.size + 1, 0, none⟩) (by show w.heap.size + 1 < _; omega)).trans h.f0, (hb.frozen (p := ⟨w.heap.size + 1, 1, none⟩) (by show w.heap.size + 1 < _; omega)).trans h.f1,
   Nat.le_trans h.sz hb.size, h.be.trans (hb.mono (by omega))⟩
theorem FlAt.drew {w W : World} {cl : Int} {ad : Addr} {n c : Nat} (h : FlAt w W cl ad n c) : FlAt w W.drew cl ad n c := ⟨h.y0, h.y1, h.r0, h.r1, h.f0, h.f1, h.sz, below_drewL h.be⟩
theorem flAt1 (w : World) (cl : Int) (ad : Addr) (n c : Nat) : FlAt w (((w.alloc (.cells #[.int .i64 cl, .slice (some ad) n c] 25)).alloc (.cells #[.int .i64 0, .slice none 0 0] 25)).alloc (.cells #[] 3)).drew cl ad n c :=
  FlAt.drew ⟨by simp [go_sem], by simp [go_sem], by simp [go_sem], by simp [go_sem], by simp [go_sem], by simp [go_sem], by simp <;> omega, ((((Below.refl _ w).alloc (Nat.le_refl _) _).alloc (by simp <;> omega) _).alloc (by simp <;> omega) _)⟩
theorem flAt2 (w : World) (cl : Int) (ad : Addr) (n c : Nat) : FlAt w ((((w.alloc (.cells #[.int .i64 cl, .slice (some ad) n c] 25)).alloc (.cells #[.int .i64 0, .slice none 0 0] 25)).alloc (.cells #[] 3)).alloc (.cells #[.int .i64 0, .slice none 0 0] 25)).drew cl ad n c :=
  FlAt.drew ⟨by simp [go_sem], by simp [go_sem], by simp [go_sem], by simp [go_sem], by simp [go_sem], by simp [go_sem], by simp <;> omega, (((((Below.refl _ w).alloc (Nat.le_refl _) _).alloc (by simp <;> omega) _).alloc (by simp <;> omega) _).alloc (by simp <;> omega) _)⟩
theorem flAt3 (w : World) (cl : Int) (ad : Addr) (n c : Nat) : FlAt w ((((w.alloc (.cells #[.int .i64 cl, .slice (some ad) n c] 25)).alloc (.cells #[.int .i64 0, .slice none 0 0] 25)).alloc (.cells #[.int .i64 0, .slice none 0 0] 25)).alloc (.cells #[] 3)).drew cl ad n c :=
  FlAt.drew ⟨by simp [go_sem], by simp [go_sem], by simp [go_sem], by simp [go_sem], by simp [go_sem], by simp [go_sem], by simp <;> omega, (((((Below.refl _ w).alloc (Nat.le_refl _) _).alloc (by simp <;> omega) _).alloc (by simp <;> omega) _).alloc (by simp <;> omega) _)⟩
theorem flOwn1 (w : World) (cl : Int) (ad : Addr) (n c : Nat) : World.ownsRow (((w.alloc (.cells #[.int .i64 cl, .slice (some ad) n c] 25)).alloc (.cells #[.int .i64 0, .slice none 0 0] 25)).alloc (.cells #[] 3)).drew (w.heap.size + 2) 3 1 (.slice (some ⟨w.heap.size + 1 + 1, 0, none⟩) 0 0) 0 (ints []) := ownsI0 ((w.alloc (.cells #[.int .i64 cl, .slice (some ad) n c] 25)).alloc (.cells #[.int .i64 0, .slice none 0 0] 25)) _ _ (by simp) (by simp)
theorem flOwn2 (w : World) (cl : Int) (ad : Addr) (n c : Nat) : World.ownsRow ((((w.alloc (.cells #[.int .i64 cl, .slice (some ad) n c] 25)).alloc (.cells #[.int .i64 0, .slice none 0 0] 25)).alloc (.cells #[] 3)).alloc (.cells #[.int .i64 0, .slice none 0 0] 25)).drew (w.heap.size + 2) 3 1 (.slice (some ⟨w.heap.size + 1 + 1, 0, none⟩) 0 0) 0 (ints []) := (ownsI0 ((w.alloc (.cells #[.int .i64 cl, .slice (some ad) n c] 25)).alloc (.cells #[.int .i64 0, .slice none 0 0] 25)) _ _ (by simp) (by simp)).alloc _
theorem flOwn3 (w : World) (cl : Int) (ad : Addr) (n c : Nat) : World.ownsRow ((((w.alloc (.cells #[.int .i64 cl, .slice (some ad) n c] 25)).alloc (.cells #[.int .i64 0, .slice none 0 0] 25)).alloc (.cells #[.int .i64 0, .slice none 0 0] 25)).alloc (.cells #[] 3)).drew (w.heap.size + 2) 3 1 (.slice (some ⟨w.heap.size + 1 + 1 + 1, 0, none⟩) 0 0) 0 (ints []) := ownsI0 (((w.alloc (.cells #[.int .i64 cl, .slice (some ad) n c] 25)).alloc (.cells #[.int .i64 0, .slice none 0 0] 25)).alloc (.cells #[.int .i64 0, .slice none 0 0] 25)) _ _ (by simp) (by simp <;> omega)
theorem flBox2 (w : World) (cl : Int) (ad : Addr) (n c : Nat) : (((((w.alloc (.cells #[.int .i64 cl, .slice (some ad) n c] 25)).alloc (.cells #[.int .i64 0, .slice none 0 0] 25)).alloc (.cells #[] 3)).alloc (.cells #[.int .i64 0, .slice none 0 0] 25)).drew).heap[w.heap.size + 1 + 1 + 1]? = some (.cells #[.int .i64 0, .slice none 0 0] 25 (0, 0)) ∧ w.heap.size + 1 + 1 + 1 < (((((w.alloc (.cells #[.int .i64 cl, .slice (some ad) n c] 25)).alloc (.cells #[.int .i64 0, .slice none 0 0] 25)).alloc (.cells #[] 3)).alloc (.cells #[.int .i64 0, .slice none 0 0] 25)).drew).heap.size := ⟨(by rw [show w.heap.size + 1 + 1 + 1 = (((w.alloc (.cells #[.int .i64 cl, .slice (some ad) n c] 25)).alloc (.cells #[.int .i64 0, .slice none 0 0] 25)).alloc (.cells #[] 3)).heap.size from by simp]; exact heap_alloc_new _ _), by simp <;> omega⟩
theorem flBox3 (w : World) (cl : Int) (ad : Addr) (n c : Nat) : (((((w.alloc (.cells #[.int .i64 cl, .slice (some ad) n c] 25)).alloc (.cells #[.int .i64 0, .slice none 0 0] 25)).alloc (.cells #[.int .i64 0, .slice none 0 0] 25)).alloc (.cells #[] 3)).drew).heap[w.heap.size + 1 + 1]? = some (.cells #[.int .i64 0, .slice none 0 0] 25 (0, 0)) ∧ w.heap.size + 1 + 1 < (((((w.alloc (.cells #[.int .i64 cl, .slice (some ad) n c] 25)).alloc (.cells #[.int .i64 0, .slice none 0 0] 25)).alloc (.cells #[.int .i64 0, .slice none 0 0] 25)).alloc (.cells #[] 3)).drew).heap.size := ⟨((((Below.refl (((w.alloc (.cells #[.int .i64 cl, .slice (some ad) n c] 25)).alloc (.cells #[.int .i64 0, .slice none 0 0] 25)).alloc (.cells #[.int .i64 0, .slice none 0 0] 25)).heap.size (((w.alloc (.cells #[.int .i64 cl, .slice (some ad) n c] 25)).alloc (.cells #[.int .i64 0, .slice none 0 0] 25)).alloc (.cells #[.int .i64 0, .slice none 0 0] 25))).alloc (Nat.le_refl _) (.cells #[] 3)).block _ (by simp)).trans (by rw [show w.heap.size + 1 + 1 = ((w.alloc (.cells #[.int .i64 cl, .slice (some ad) n c] 25)).alloc (.cells #[.int .i64 0, .slice none 0 0] 25)).heap.size from by simp]; exact heap_alloc_new _ _)), by simp <;> omega⟩
theorem flFin {w W w1 : World} {cl : Int} {ad : Addr} {n c n2 c2 : Nat} {A : Option Addr} {rs : List Int} (h : FlAt w W cl ad n c) (hown : w1.ownsRow (w.heap.size + 2) 3 1 (.slice A n2 c2) n2 (ints rs)) (hl : rs.length = n2)
    (hb : ∀ B, B ≤ w.heap.size + 2 → B ≤ W.heap.size → Below B W w1) : FlAt w w1 cl ad n c ∧ Fr w1 (w.heap.size + 2) w1.heap.size (.slice A n2 c2) rs :=
  ⟨h.below (hb _ (Nat.le_refl _) h.sz), Fr.of_own (by rw [hl]; exact hown)⟩
theorem flFin2 {w W w1 : World} {n c p g : Nat} {xs : List Value} {b : Nat} (hown : w1.ownsRow (w.heap.size + 2) 3 1 (.slice (some ⟨g, 0, none⟩) n c) n xs) (hg : W.grownBy w1 (some b)) (hp : W.heap[p]? = some (.cells #[.int .i64 0, .slice none 0 0] 25 (0, 0)) ∧ p < W.heap.size) (hne : p ≠ b) :
    w1.cell? ⟨p, 0, none⟩ = some (.int .i64 0) ∧ w1.cell? ⟨p, 1, none⟩ = some (.slice none 0 0) ∧ w1.frozen? ⟨p, 0, none⟩ = false ∧ w1.frozen? ⟨p, 1, none⟩ = false ∧ p ≠ g ∧ p < w1.heap.size := by
  have h := (hg.block p hp.2 (by intro h; injection h with h; exact hne h)).trans hp.1
  exact ⟨by simp [World.cell?, h], by simp [World.cell?, h], by simp [World.frozen?, h], by simp [World.frozen?, h], ownNeI hown h, Nat.lt_of_lt_of_le hp.2 hg.size⟩
/-- What stands behind the region that copies the tour. -/
structure FlMid (w wx : World) (cl : Int) (ad : Addr) (n c p g c2 : Nat) (xs : List Int) : Prop where
  fr : Fr wx (w.heap.size + 2) wx.heap.size (.slice (some ⟨g, 0, none⟩) n c2) xs
  q0 : wx.cell? ⟨p, 0, none⟩ = some (.int .i64 cl)
  q1 : wx.cell? ⟨p, 1, none⟩ = some (.slice (some ⟨g, 0, none⟩) n c2)
  at_ : FlAt w wx cl ad n c
  p1 : w.heap.size + 2 ≤ p
  p2 : p < wx.heap.size
  pg : p ≠ g
theorem flMid_new {w w1 : World} {cl : Int} {ad : Addr} {n c g c2 : Nat} {xs : List Int} (h1 : Fr w1 (w.heap.size + 2) w1.heap.size (.slice (some ⟨g, 0, none⟩) n c2) xs) (h4 : FlAt w w1 cl ad n c) :
    FlMid w (w1.alloc (.cells #[.int .i64 cl, .slice (some ⟨g, 0, none⟩) n c2] 25)) cl ad n c w1.heap.size g c2 xs :=
  ⟨(h1.grow ((Below.refl _ w1).alloc (Nat.le_refl _) _)).wide (Nat.le_refl _) (by simp) (Nat.le_refl _), by simp [go_sem], by simp [go_sem], h4.below ((Below.refl _ w1).alloc h4.sz _), h4.sz, by simp, by have := h1.2.1 g rfl; omega⟩
theorem flMid_put {w w1 : World} {cl : Int} {ad : Addr} {n c g c2 p : Nat} {xs : List Int} (h1 : Fr w1 (w.heap.size + 2) w1.heap.size (.slice (some ⟨g, 0, none⟩) n c2) xs) (h4 : FlAt w w1 cl ad n c)
    (hp : w.heap.size + 2 ≤ p) (hlt : p < w1.heap.size) (hne : p ≠ g) (p0 : w1.cell? ⟨p, 0, none⟩ = some (.int .i64 0)) (p1 : w1.cell? ⟨p, 1, none⟩ = some (.slice none 0 0)) :
    FlMid w ((w1.setCell ⟨p, 0, none⟩ (.int .i64 cl)).setCell ⟨p, 1, none⟩ (.slice (some ⟨g, 0, none⟩) n c2)) cl ad n c p g c2 xs := by
  have kp : Keep p (p + 1) w1 ((w1.setCell ⟨p, 0, none⟩ (.int .i64 cl)).setCell ⟨p, 1, none⟩ (.slice (some ⟨g, 0, none⟩) n c2)) :=
    ((Keep.refl _ _ _).setCell (p := ⟨p, 0, none⟩) (Nat.le_refl _) (Nat.lt_succ_self _) _).setCell (p := ⟨p, 1, none⟩) (Nat.le_refl _) (Nat.lt_succ_self _) _
  have hsz := kp.size
  exact ⟨(h1.apart kp (fun k hk => by simp only [Value.ownBlock, Option.some.injEq] at hk; omega)).wide (Nat.le_refl _) (by omega) (Nat.le_refl _), by simp [go_sem, p0], by simp [go_sem, p1], h4.below ((kp.below (B := w.heap.size + 2) hp h4.sz).mono (Nat.le_refl _)), hp, by omega, hne⟩
theorem FlMid.drew {w wx : World} {cl : Int} {ad : Addr} {n c p g c2 : Nat} {xs : List Int} (h : FlMid w wx cl ad n c p g c2 xs) : FlMid w wx.drew cl ad n c p g c2 xs := ⟨h.fr, h.q0, h.q1, h.at_.drew, h.p1, h.p2, h.pg⟩
theorem FlMid.set {w wx : World} {cl : Int} {ad : Addr} {n c p g c2 a : Nat} {xs : List Int} {z : Int} (h : FlMid w wx cl ad n c p g c2 xs) (hz : xs[a]? = some z) :
    a < n ∧ wx.cell? ⟨g, a, none⟩ = some (.int .i64 z) ∧ wx.frozen? ⟨g, a, none⟩ = false ∧ ∀ y, FlMid w (wx.setCell ⟨g, a, none⟩ (.int .i64 y)) cl ad n c p g c2 (xs.set a y) := by
  have hk := (List.getElem?_eq_some_iff.1 hz).1
  obtain ⟨g', z', e, hg1, hg2, hz', c1, f1, s1⟩ := h.fr.at_ hk
  injection e with e
  injection e with e
  subst e
  obtain rfl : z = z' := by rw [hz] at hz'; exact Option.some.inj hz'
  refine ⟨by rw [h.fr.len]; exact hk, c1, f1, fun y => ?_⟩
  have KP : Keep g (g + 1) wx (wx.setCell ⟨g, a, none⟩ (.int .i64 y)) := (Keep.refl _ _ _).setCell (p := ⟨g, a, none⟩) (Nat.le_refl _) (Nat.lt_succ_self _) _
  have hpg := h.pg
  exact ⟨(s1 y).1.wide (Nat.le_refl _) KP.size (Nat.le_refl _), (KP.cell (p := ⟨p, 0, none⟩) h.p2 (by show p < g ∨ g + 1 ≤ p; omega)).trans h.q0, (KP.cell (p := ⟨p, 1, none⟩) h.p2 (by show p < g ∨ g + 1 ≤ p; omega)).trans h.q1,
    h.at_.below (KP.below hg1 h.at_.sz), h.p1, Nat.lt_of_lt_of_le h.p2 KP.size, hpg⟩

theorem bits_xor8 {a b : Nat} (ha : a < 256) (hb : b < 256) : bits BinOp.xor IntKind.i64 (a : Int) (b : Int) = ((a ^^^ b : Nat) : Int) := by
  have hp : (256 : Nat) ≤ 2 ^ IntKind.i64.bits := by decide
  have h1 : a ^^^ b < 2 ^ 8 := Nat.xor_lt_two_pow ha hb
  simp only [bits, BitVec.ofInt_natCast, BitVec.toNat_xor, BitVec.toNat_ofNat, Nat.mod_eq_of_lt (Nat.lt_of_lt_of_le ha hp), Nat.mod_eq_of_lt (Nat.lt_of_lt_of_le hb hp)]
  rw [IntKind.wrap_i64]; omega
theorem win_rng {x : TourV} (hok : tourB x = true) {a : Nat} {z : Int} (hz : x.wins[a]? = some z) : 0 ≤ z ∧ z < 256 := by
  obtain ⟨t1, t2, t3, t4, _⟩ := tourB_t hok
  have h1 := inB_t.1 (List.all_eq_true.1 t4 z (List.mem_of_getElem? hz))
  have h2 : (2 : Int) ^ x.wins.length = ((2 ^ x.wins.length : Nat) : Int) := by rw [Int.natCast_pow]; rfl
  have h3 : (2 : Nat) ^ x.wins.length ≤ 2 ^ 8 := Nat.pow_le_pow_right (by omega) (by omega)
  rw [h2] at h1
  omega
set_option maxHeartbeats 4000000 in
set_option maxRecDepth 100000 in
theorem l02Flip_any (v : Value) (x : TourV) (a b : Nat) (w : World) (hs : InT w v x) (hok : tourB x = true) (ha : a < x.wins.length) (hb : b < x.wins.length) (hab : a ≠ b) :
    Calls Tryz.prog 48 #[v, .int .i64 (a : Int), .int .i64 (b : Int)] w fun e w' => ∃ A c, e = .returned (.agg #[.int .i64 x.size, .slice A x.wins.length c]) ∧ Fr w' w.heap.size w'.heap.size (.slice A x.wins.length c) (flipL x.wins a b) ∧ Below w.heap.size w w' := by
  obtain ⟨u, rfl, A, c, rfl, hc, hm, hsl⟩ := hs
  obtain ⟨t1, t2, t3, t4, _⟩ := tourB_t hok
  have hn8 : x.wins.length ≤ 8 := by omega
  obtain ⟨ad, rfl⟩ : ∃ ad, A = some ad := by
    obtain ⟨b, off, _, h, _⟩ := hsl.at_ ha
    exact ⟨_, h⟩
  have HS := Lib.hid hsl
  have HOK := Lib.hid hok
  clear hsl hok t4
  go_enter Tryz.func48, Tryz.ntmps48
  go_upto_region 1 with fail
  go_cut [7] from 8 to 14 (fun s7 wx => ∃ p g c2, s7 = .pointer (some ⟨p, 0, none⟩) ∧ Hid (FlMid w wx x.size ad x.wins.length c p g c2 x.wins))
  case first =>
    go_region_held3 (fun W => W.cell? ⟨w.heap.size, 0, none⟩ = some (.int .i64 x.size) ∧ W.cell? ⟨w.heap.size, 1, none⟩ = some (.slice (some ad) x.wins.length c)) (first | go_keep | exact ⟨((World.cell?_setCell_far _ _ _ _ (by simp; omega)).trans (World.cell?_setCell_far _ _ _ _ (by simp; omega))).trans y0, ((World.cell?_setCell_far _ _ _ _ (by simp; omega)).trans (World.cell?_setCell_far _ _ _ _ (by simp; omega))).trans y1⟩) (first
      | (refine stepAppC rfl (.tmp 10) (.tmp 12) rfl (w.heap.size + 2) _ 0 [] rfl (flOwn1 w x.size ad x.wins.length c) ad x.wins.length c x.wins rfl rfl (SlI.alloc (SlI.alloc (SlI.alloc (HS.out) _) _) _) (by omega) (flAt1 w x.size ad x.wins.length c).sz ?_; intro v' w1 hown hb hg; rw [Nat.zero_add, List.nil_append] at hown; obtain ⟨A2, c2, rfl, -, -⟩ := (Fr.of_own hown).form; obtain ⟨g, r_, rfl, hlo, hhi, -⟩ := (Fr.of_own hown).at_ ha; obtain ⟨at1, fr1⟩ := flFin (flAt1 w x.size ad x.wins.length c) hown rfl hb; have y0 := at1.y0; have y1 := at1.y1; clear hown hb hg)
      | (refine stepAppC rfl (.tmp 10) (.tmp 12) rfl (w.heap.size + 2) _ 0 [] rfl (flOwn2 w x.size ad x.wins.length c) ad x.wins.length c x.wins rfl rfl (SlI.alloc (SlI.alloc (SlI.alloc (SlI.alloc (HS.out) _) _) _) _) (by omega) (flAt2 w x.size ad x.wins.length c).sz ?_; intro v' w1 hown hb hg; rw [Nat.zero_add, List.nil_append] at hown; obtain ⟨A2, c2, rfl, -, -⟩ := (Fr.of_own hown).form; obtain ⟨g, r_, rfl, hlo, hhi, -⟩ := (Fr.of_own hown).at_ ha; obtain ⟨at1, fr1⟩ := flFin (flAt2 w x.size ad x.wins.length c) hown rfl hb; have y0 := at1.y0; have y1 := at1.y1; obtain ⟨p0, p1, pf0, pf1, pne, plt⟩ := flFin2 hown hg (flBox2 w x.size ad x.wins.length c) (by simp); clear hown hb hg)
      | (refine stepAppC rfl (.tmp 10) (.tmp 12) rfl (w.heap.size + 2) _ 0 [] rfl (flOwn3 w x.size ad x.wins.length c) ad x.wins.length c x.wins rfl rfl (SlI.alloc (SlI.alloc (SlI.alloc (SlI.alloc (HS.out) _) _) _) _) (by omega) (flAt3 w x.size ad x.wins.length c).sz ?_; intro v' w1 hown hb hg; rw [Nat.zero_add, List.nil_append] at hown; obtain ⟨A2, c2, rfl, -, -⟩ := (Fr.of_own hown).form; obtain ⟨g, r_, rfl, hlo, hhi, -⟩ := (Fr.of_own hown).at_ ha; obtain ⟨at1, fr1⟩ := flFin (flAt3 w x.size ad x.wins.length c) hown rfl hb; have y0 := at1.y0; have y1 := at1.y1; obtain ⟨p0, p1, pf0, pf1, pne, plt⟩ := flFin2 hown hg (flBox3 w x.size ad x.wins.length c) (by simp); clear hown hb hg))
    all_goals (go_wp2_with fail; go_meet)
    · exact ⟨_, g, c2, rfl, flMid_new fr1 at1⟩
    · exact ⟨_, g, c2, rfl, flMid_put fr1 at1 (by omega) plt pne p0 p1⟩
    · exact ⟨_, g, c2, rfl, flMid_put fr1 at1 (by omega) plt pne p0 p1⟩
  case rest =>
    obtain ⟨p, g, c2, rfl, HF⟩ := hcut
    obtain ⟨y, hy⟩ : ∃ y, x.wins[a]? = some y := ⟨_, List.getElem?_eq_getElem ha⟩
    obtain ⟨z, hz⟩ : ∃ z, x.wins[b]? = some z := ⟨_, List.getElem?_eq_getElem hb⟩
    obtain ⟨y0, y1⟩ := win_rng HOK.out hy
    obtain ⟨z0, z1⟩ := win_rng HOK.out hz
    obtain ⟨Y, rfl⟩ := Int.eq_ofNat_of_zero_le y0
    obtain ⟨Z, rfl⟩ := Int.eq_ofNat_of_zero_le z0
    have hFL : flipL x.wins a b = (x.wins.set a ((Y ^^^ 2 ^ b : Nat) : Int)).set b ((Z ^^^ 2 ^ a : Nat) : Int) := by
      rw [flipL, List.getD_eq_getElem?_getD, hy, List.getD_eq_getElem?_getD, hz]; rfl
    have hz2 : (x.wins.set a ((Y ^^^ 2 ^ b : Nat) : Int))[b]? = some (Z : Int) := by rw [List.getElem?_set_ne hab]; exact hz
    have hPw : ∀ k : Fin 8, (2 : Nat) ^ k.val < 256 ∧ IntKind.i64.wrap ((2 : Int) ^ k.val) = ((2 ^ k.val : Nat) : Int) := by decide +kernel
    obtain ⟨b1, b2⟩ := hPw ⟨b, by omega⟩
    obtain ⟨a1, a2⟩ := hPw ⟨a, by omega⟩
    simp only at b1 b2 a1 a2
    have X1 := bits_xor8 (a := Y) (b := 2 ^ b) (by omega) b1
    have X2 := bits_xor8 (a := Z) (b := 2 ^ a) (by omega) a1
    generalize Y ^^^ 2 ^ b = U at *
    generalize Z ^^^ 2 ^ a = V at *
    generalize (2 : Nat) ^ b = Q at *
    generalize (2 : Nat) ^ a = R at *
    have HFL := Lib.hid hFL
    have HX2 := Lib.hid (And.intro X2 (And.intro a2 hz2))
    have ha8 : (a : Int) < 64 := by clear b2 a2 X1 X2; omega
    have hb8 : (b : Int) < 64 := by clear b2 a2 X1 X2; omega
    have haI : (a : Int) < x.wins.length := by clear b2 a2 X1 X2; omega
    have hbI : (b : Int) < x.wins.length := by clear b2 a2 X1 X2; omega
    clear hFL X2 a2 hz2 hz hPw z1 z0 y0 y1
    obtain ⟨-, d1, d2, s1⟩ := HF.out.set hy
    have H2 : Hid (FlMid w (wc.setCell ⟨g, a, none⟩ (.int .i64 (U : Int))).drew x.size ad x.wins.length c p g c2 (x.wins.set a (U : Int))) := (s1 _).drew
    have q1 := HF.out.q1
    have hpg : ¬ g = p := fun e => HF.out.pg e.symm
    clear s1 hy HF
    go_wp2
    go_region
    generalize (wc.setCell ⟨g, a, none⟩ (.int .i64 (U : Int))).drew = W2 at *
    clear d1 d2 q1 X1 b2
    obtain ⟨X2, a2, hz2⟩ := HX2.out
    obtain ⟨-, d1, d2, s1⟩ := H2.out.set hz2
    have H3 : Hid (FlMid w (W2.setCell ⟨g, b, none⟩ (.int .i64 (V : Int))).drew x.size ad x.wins.length c p g c2 ((x.wins.set a (U : Int)).set b (V : Int))) := (s1 _).drew
    have q1 := H2.out.q1
    clear s1 hz2 HX2 H2
    go_wp2
    go_region
    generalize (W2.setCell ⟨g, b, none⟩ (.int .i64 (V : Int))).drew = W3 at *
    clear d1 d2 q1 X2 a2
    obtain ⟨r0, r1, r2, r3⟩ := And.intro H3.out.at_.r0 (And.intro H3.out.at_.r1 (And.intro H3.out.at_.f0 H3.out.at_.f1))
    have q0 := H3.out.q0
    have q1 := H3.out.q1
    go_wp2
    have KP : Keep (w.heap.size + 1) (w.heap.size + 2) W3 ((W3.setCell ⟨w.heap.size + 1, 0, none⟩ (.int .i64 x.size)).setCell ⟨w.heap.size + 1, 1, none⟩ (.slice (some ⟨g, 0, none⟩) x.wins.length c2)) :=
      ((Keep.refl _ _ _).setCell (p := ⟨w.heap.size + 1, 0, none⟩) (Nat.le_refl _) (Nat.lt_succ_self _) _).setCell (p := ⟨w.heap.size + 1, 1, none⟩) (Nat.le_refl _) (Nat.lt_succ_self _) _
    refine bodyPost_ret (v := .agg #[.int .i64 x.size, .slice (some ⟨g, 0, none⟩) x.wins.length c2]) (by simp [results, Tryz.results48, go_sem, r0, r1]) rfl ⟨_, _, rfl, ?_, H3.out.at_.be.trans (KP.below (Nat.le_succ _) H3.out.at_.be.size)⟩
    rw [HFL.out]
    exact (H3.out.fr.keep KP (.inr (Nat.le_refl _))).wide (by omega) (Nat.le_trans H3.out.fr.2.2 KP.size) (Nat.le_refl _)
end Go.Proofs.YtofpaekokmkhgaaGreatDoor
