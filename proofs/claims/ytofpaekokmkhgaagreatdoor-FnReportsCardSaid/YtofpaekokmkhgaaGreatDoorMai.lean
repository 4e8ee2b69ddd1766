/- How many elements a small set has: the library's OnesCount at numbers below 256. -/
import Derived.Test.YtofpaekokmkhgaaGreatDoorMag
import Derived.Test.YtofpaekokmkhgaaGreatDoorStd
import Derived.Test.YtofpaekokmkhgaaGreatDoorMac
import Derived.Deep.QuietTactic
import Derived.BigQuiet
import Derived.ChangeOld
import Derived.Deep.Matrix
import Derived.ShutString
import Derived.Deep.RegionHeld3
import Derived.Lib.SmallJoins
namespace Go.Proofs.YtofpaekokmkhgaaGreatDoor
open Go.ChangeShapes Go.WideShapes Go.ChangeAt Go.RowKit

/-- The steps of the count. -/
def pop1 (s : Nat) : Nat := (s / 2) &&& 85
def pop2 (s : Nat) : Nat := s &&& 85
def pop3 (s : Nat) : Nat := ((pop1 s + pop2 s) / 4) &&& 51
def pop4 (s : Nat) : Nat := (pop1 s + pop2 s) &&& 51
def pop5 (s : Nat) : Nat := ((pop3 s + pop4 s) / 16 + (pop3 s + pop4 s)) &&& 15
structure PopOk (s : Nat) : Prop where
  h1 : bits BinOp.and IntKind.u64 ((s : Int) / 2) 6148914691236517205 = (pop1 s : Nat)
  h2 : bits BinOp.and IntKind.u64 (s : Int) 6148914691236517205 = (pop2 s : Nat)
  b1 : pop1 s ≤ 85
  b2 : pop2 s ≤ 85
  h3 : bits BinOp.and IntKind.u64 (((pop1 s : Nat) + (pop2 s : Nat) : Int) / 4) 3689348814741910323 = (pop3 s : Nat)
  h4 : bits BinOp.and IntKind.u64 ((pop1 s : Nat) + (pop2 s : Nat) : Int) 3689348814741910323 = (pop4 s : Nat)
  b3 : pop3 s ≤ 51
  b4 : pop4 s ≤ 51
  h5 : bits BinOp.and IntKind.u64 (((pop3 s : Nat) + (pop4 s : Nat) : Int) / 16 + ((pop3 s : Nat) + (pop4 s : Nat))) 1085102592571150095 = (pop5 s : Nat)
  b5 : pop5 s ≤ 15
  h6 : bits BinOp.and IntKind.i64 ((pop5 s : Nat) : Int) 127 = (cntL s : Nat)
theorem pop_all : ∀ s : Fin 256,
    (bits BinOp.and IntKind.u64 ((s.val : Int) / 2) 6148914691236517205 = (pop1 s.val : Nat) ∧ bits BinOp.and IntKind.u64 (s.val : Int) 6148914691236517205 = (pop2 s.val : Nat) ∧ pop1 s.val ≤ 85 ∧ pop2 s.val ≤ 85) ∧
    (bits BinOp.and IntKind.u64 (((pop1 s.val : Nat) + (pop2 s.val : Nat) : Int) / 4) 3689348814741910323 = (pop3 s.val : Nat) ∧ bits BinOp.and IntKind.u64 ((pop1 s.val : Nat) + (pop2 s.val : Nat) : Int) 3689348814741910323 = (pop4 s.val : Nat) ∧ pop3 s.val ≤ 51 ∧ pop4 s.val ≤ 51) ∧
    (bits BinOp.and IntKind.u64 (((pop3 s.val : Nat) + (pop4 s.val : Nat) : Int) / 16 + ((pop3 s.val : Nat) + (pop4 s.val : Nat))) 1085102592571150095 = (pop5 s.val : Nat) ∧ pop5 s.val ≤ 15 ∧ bits BinOp.and IntKind.i64 ((pop5 s.val : Nat) : Int) 127 = (cntL s.val : Nat)) := by decide +kernel
theorem pop_ok {s : Nat} (hs : s < 256) : PopOk s := by
  obtain ⟨⟨a1, a2, a3, a4⟩, ⟨a5, a6, a7, a8⟩, a9, a10, a11⟩ := pop_all ⟨s, hs⟩
  exact ⟨a1, a2, a3, a4, a5, a6, a7, a8, a9, a10, a11⟩
set_option maxHeartbeats 2000000 in
theorem onesCount64_any (s : Nat) (w : World) (hs : s < 256) :
    Calls Tryz.prog 83 #[.int .u64 (s : Int)] w fun e w' => e = .returned (.int .i64 (cntL s : Nat)) ∧ w = w' := by
  obtain ⟨h1, h2, b1, b2, h3, h4, b3, b4, h5, b5, h6⟩ := pop_ok hs
  generalize pop1 s = p1 at *
  generalize pop2 s = p2 at *
  generalize pop3 s = p3 at *
  generalize pop4 s = p4 at *
  generalize pop5 s = p5 at *
  generalize cntL s = C at *
  have e1 : IntKind.u64.wrap ((p1 : Int) + p2) = (p1 : Int) + p2 := by rw [IntKind.wrap_u64]; omega
  go_enter Tryz.func83, Tryz.ntmps83
  go_wp2
  go_ret
  have e2 : (p5 : Int) + p5 / 256 + ((p5 : Int) + p5 / 256) / 65536 + ((p5 : Int) + p5 / 256 + ((p5 : Int) + p5 / 256) / 65536) / 4294967296 = p5 := by omega
  exact ⟨ret_int (by rw [e2]; exact h6), rfl⟩

theorem onesCount_any (s : Nat) (w : World) (hs : s < 256) :
    Calls Tryz.prog 62 #[.int .u64 (s : Int)] w fun e w' => e = .returned (.int .i64 (cntL s : Nat)) ∧ w = w' := by
  have HC := Lib.hid (fun W => onesCount64_any s W hs)
  go_enter Tryz.func62, Tryz.ntmps62
  go_wp2_with (go_at_call 83; refine (HC.out _).mono ?_; rintro e w' ⟨rfl, rfl⟩)
  go_ret
  exact ⟨rfl, rfl⟩
end Go.Proofs.YtofpaekokmkhgaaGreatDoor
namespace Go.Proofs.YtofpaekokmkhgaaGreatDoor
open Go.ChangeShapes Go.WideShapes Go.ChangeAt Go.RowKit

theorem Keep.cell {lo hi : Nat} {w w' : World} (h : Keep lo hi w w') {p : Addr} (hp : p.block < w.heap.size) (hd : p.block < lo ∨ hi ≤ p.block) : w'.cell? p = w.cell? p := by
  unfold World.cell?
  rw [h.block p.block hp hd]

theorem Keep.frozen {lo hi : Nat} {w w' : World} (h : Keep lo hi w w') {p : Addr} (hp : p.block < w.heap.size) (hd : p.block < lo ∨ hi ≤ p.block) : w'.frozen? p = w.frozen? p := by
  unfold World.frozen?
  rw [h.block p.block hp hd]
/-- The block b holds the two cells of a struct. -/
def Bx (w : World) (b : Nat) (x y : Value) : Prop := w.cell? ⟨b, 0, none⟩ = some x ∧ w.cell? ⟨b, 1, none⟩ = some y ∧ b < w.heap.size
theorem Bx.below {w w' : World} {b : Nat} {x y : Value} (h : Bx w b x y) (hb : Below w.heap.size w w') : Bx w' b x y :=
  ⟨(hb.cell (p := ⟨b, 0, none⟩) h.2.2).trans h.1, (hb.cell (p := ⟨b, 1, none⟩) h.2.2).trans h.2.1, Nat.lt_of_lt_of_le h.2.2 hb.size⟩
theorem Bx.keep {w w' : World} {b lo hi : Nat} {x y : Value} (h : Bx w b x y) (hk : Keep lo hi w w') (hd : b < lo ∨ hi ≤ b) : Bx w' b x y :=
  ⟨(hk.cell (p := ⟨b, 0, none⟩) h.2.2 hd).trans h.1, (hk.cell (p := ⟨b, 1, none⟩) h.2.2 hd).trans h.2.1, Nat.lt_of_lt_of_le h.2.2 hk.size⟩
theorem Bx.drew {w : World} {b : Nat} {x y : Value} (h : Bx w b x y) : Bx w.drew b x y := h
theorem below_drewL {B : Nat} {a w : World} (h : Below B a w) : Below B a w.drew := ⟨h.os, h.tape, h.output, h.size, h.block⟩
theorem Fr.drew {w : World} {lo hi : Nat} {v : Value} {xs : List Int} (h : Fr w lo hi v xs) : Fr w.drew lo hi v xs := h

theorem OwS.drew {w : World} {lo hi : Nat} {v : Value} {xss : List (List Int)} (h : OwS w lo hi v xss) : OwS w.drew lo hi v xss := h
end Go.Proofs.YtofpaekokmkhgaaGreatDoor
namespace Go.Proofs.YtofpaekokmkhgaaGreatDoor
open Go.ChangeShapes Go.WideShapes Go.ChangeAt Go.RowKit

structure TourV where
  size : Int
  wins : List Int
/-- The value v reads as the tour x. -/
def InT (w : World) (v : Value) (x : TourV) : Prop := ∃ u, v = .agg #[.int .i64 x.size, u] ∧ InI w u x.wins
theorem InT.below {w w' : World} {v : Value} {x : TourV} (h : InT w v x) (hb : Below w.heap.size w w') : InT w' v x := by
  obtain ⟨u, rfl, h⟩ := h; exact ⟨u, rfl, h.below hb⟩
def OwT (w : World) (lo hi : Nat) (v : Value) (x : TourV) : Prop := ∃ u, v = .agg #[.int .i64 x.size, u] ∧ Fr w lo hi u x.wins
theorem OwT.in_ {w : World} {lo hi : Nat} {v : Value} {x : TourV} (h : OwT w lo hi v x) : InT w v x := by
  obtain ⟨u, rfl, h⟩ := h; exact ⟨u, rfl, h.in_⟩
theorem OwT.keep {w w' : World} {lo hi l2 h2 : Nat} {v : Value} {x : TourV} (h : OwT w lo hi v x) (hk : Keep l2 h2 w w') (hd : hi ≤ l2 ∨ h2 ≤ lo) : OwT w' lo hi v x := by
  obtain ⟨u, rfl, h⟩ := h; exact ⟨u, rfl, h.keep hk hd⟩
theorem OwT.grow {w w' : World} {lo hi : Nat} {v : Value} {x : TourV} (h : OwT w lo hi v x) (hb : Below w.heap.size w w') : OwT w' lo hi v x := by
  obtain ⟨u, rfl, h⟩ := h; exact ⟨u, rfl, h.grow hb⟩
theorem OwT.form {w : World} {lo hi : Nat} {v : Value} {x : TourV} (h : OwT w lo hi v x) : ∃ A c, v = .agg #[.int .i64 x.size, .slice A x.wins.length c] := by
  obtain ⟨u, rfl, h⟩ := h
  obtain ⟨A, c, rfl, _⟩ := h.form
  exact ⟨A, c, rfl⟩
end Go.Proofs.YtofpaekokmkhgaaGreatDoor
namespace Go.Proofs.YtofpaekokmkhgaaGreatDoor
open Go.ChangeShapes Go.WideShapes Go.ChangeAt Go.RowKit Go.Deep

theorem inI_of_row {w : World} {a : Option Addr} {len cap : Nat} {zs : List Int}
    (h : (a = none ∧ len = 0 ∧ cap = 0 ∧ zs = []) ∨ ∃ x, a = some x ∧ len ≤ cap ∧ cap ≤ maxLen ∧ zs.length = cap ∧ (∀ i, i < zs.length → w.cell? (x.add i) = some (.int .i64 (zs.getD i 0))) ∧ ∀ n ∈ zs, (Lit.int .i64 n).wf = true) :
    ∃ xs : List Int, InI w (.slice a len cap) xs := by
  have h' := h
  obtain ⟨xs, hl, hs, _⟩ := slI_of_row h
  subst hl
  rcases h' with ⟨rfl, h1, rfl, _⟩ | ⟨x, rfl, h1, h2, _⟩
  · exact ⟨xs, none, 0, rfl, by omega, by unfold maxLen; omega, hs⟩
  · exact ⟨xs, some x, cap, rfl, h1, h2, hs⟩
set_option maxRecDepth 100000 in
theorem openI {H : Type} {enc : TypeId × Value → H} {W : World} {base : Nat} {v : Value} {d : DataW H} {p : List MemPlace}
    (hok : Value.okWide Tryz.prog W .any base 23 v) (h : DataW.Trod enc Tryz.prog W 0 (fun _ => true) true 23 v d p) : ∃ xs : List Int, InI W v xs := by
  obtain ⟨a0, len0, cap0, rfl⟩ := okWide_slice Tryz.underlying23 hok
  obtain ⟨fuel, hf⟩ := h
  rcases open_ints Tryz.underlying23 Tryz.underlying3 (by kernel_rfl) hf with ⟨hcs, _⟩ | ⟨x, l, c, zs, hcs, _, hl, hm, hz, _, hcell, hwz⟩
  · simp [Value.cells] at hcs
    obtain ⟨rfl, rfl, rfl⟩ := hcs
    exact inI_of_row (.inl ⟨rfl, rfl, rfl, rfl⟩)
  · simp [Value.cells] at hcs
    obtain ⟨rfl, rfl, rfl⟩ := hcs
    exact inI_of_row (.inr ⟨_, rfl, hl, hm, by simpa using hz, hcell, hwz⟩)

set_option maxRecDepth 100000 in
theorem openS {H : Type} {enc : TypeId × Value → H} {W : World} {base : Nat} {v : Value} {d : DataW H} {p : List MemPlace}
    (hok : Value.okWide Tryz.prog W .any base 27 v) (h : DataW.Trod enc Tryz.prog W 0 (fun _ => true) true 27 v d p) : ∃ xss : List (List Int), InS W v xss := by
  obtain ⟨a0, len, cap, rfl⟩ := okWide_slice Tryz.underlying27 hok
  obtain ⟨fuel, hf⟩ := h
  rcases open_int_rows Tryz.underlying27 Tryz.underlying23 Tryz.underlying3 (by kernel_rfl) (by kernel_rfl) hf with ⟨hcs, _⟩ | ⟨a, len', cap', A, L, C, Z, hcs, _, hl, hm, _, hr⟩
  · simp [Value.cells] at hcs
    obtain ⟨rfl, rfl, rfl⟩ := hcs
    exact ⟨[], none, 0, [], rfl, rfl, by simp, by unfold maxLen; omega, .inl rfl, fun k u xs hu => by simp at hu⟩
  · simp [Value.cells] at hcs
    obtain ⟨rfl, rfl, rfl⟩ := hcs
    have each : ∀ r, r < cap → ∃ xs : List Int, InI W (.slice (A r) (L r) (C r)) xs := by
      intro r hr'
      obtain ⟨h1, h2, h3, h4, h5, h6, h7⟩ := hr r hr'
      cases hA : A r with
      | none =>
        have hC := h6 hA
        exact inI_of_row (zs := []) (.inl ⟨rfl, by omega, hC, rfl⟩)
      | some a' =>
        exact inI_of_row (zs := Z r) (.inr ⟨a', rfl, h2, h3, h4, fun i hi => (h7 a' hA).2 i (by omega), h5⟩)
    obtain ⟨F, hF⟩ := choose_lt each
    refine ⟨(List.range len).map F, some a, cap, (List.range len).map fun r => .slice (A r) (L r) (C r), by simp, by simp, by simpa using hl, hm, ?_, ?_⟩
    · by_cases h0 : 0 < len
      · obtain ⟨b, off, spot⟩ := a
        have hspot : spot = none := by simpa [Addr.add] using World.cell?_spot (hr 0 (by omega)).1
        subst hspot
        refine .inr ⟨b, off, rfl, fun k u hu => ?_⟩
        have hk : k < len := by
          rcases Nat.lt_or_ge k len with h | h
          · exact h
          · rw [List.getElem?_eq_none (by simpa using h)] at hu; cases hu
        rw [List.getElem?_map, List.getElem?_range hk] at hu
        injection hu with hu
        rw [← hu, ← Go.WideShapes.add_plain]; exact (hr k (by omega)).1
      · exact .inl (by have : len = 0 := by omega
                       subst this; rfl)
    · intro k u xs hu hx
      have hk : k < len := by
        rcases Nat.lt_or_ge k len with h | h
        · exact h
        · rw [List.getElem?_eq_none (by simpa using h)] at hu; cases hu
      rw [List.getElem?_map, List.getElem?_range hk] at hu hx
      injection hu with hu
      injection hx with hx
      rw [← hu, ← hx]; exact hF k (by omega)


theorem inI_of_row_w {w : World} {a : Option Addr} {len cap : Nat} {zs : List Int}
    (h : (a = none ∧ len = 0 ∧ cap = 0 ∧ zs = []) ∨ ∃ x, a = some x ∧ len ≤ cap ∧ cap ≤ maxLen ∧ zs.length = cap ∧ (∀ i, i < zs.length → w.cell? (x.add i) = some (.int .i64 (zs.getD i 0))) ∧ ∀ n ∈ zs, (Lit.int .i64 n).wf = true) :
    ∃ xs : List Int, InI w (.slice a len cap) xs ∧ ∀ x ∈ xs, (Lit.int .i64 x).wf = true := by
  rcases h with ⟨rfl, rfl, rfl, rfl⟩ | ⟨⟨b, off, spot⟩, rfl, h1, h2, h3, h4, h5⟩
  · exact ⟨[], ⟨none, 0, rfl, by simp, by unfold maxLen; omega, .inl rfl⟩, by simp⟩
  · have hl : (zs.take len).length = len := by rw [List.length_take]; omega
    refine ⟨zs.take len, ⟨some ⟨b, off, spot⟩, cap, by rw [hl], by omega, h2, ?_⟩, fun x hx => h5 x (List.mem_of_mem_take hx)⟩
    by_cases h0 : len = 0
    · exact .inl (List.eq_nil_of_length_eq_zero (by omega))
    have hspot : spot = none := by simpa [Addr.add] using World.cell?_spot (h4 0 (by omega))
    subst hspot
    refine .inr ⟨b, off, rfl, fun k x hx => ?_⟩
    have hk : k < len := by
      rcases Nat.lt_or_ge k len with h | h
      · exact h
      · rw [List.getElem?_eq_none (by omega)] at hx; cases hx
    rw [List.getElem?_take, if_pos hk] at hx
    have := h4 k (by omega)
    rw [List.getD_eq_getElem?_getD, hx] at this
    by_cases hk0 : k = 0
    · subst hk0; simpa [Addr.add] using this
    · simpa [Addr.add, hk0] using this
set_option maxRecDepth 100000 in
theorem openIW {H : Type} {enc : TypeId × Value → H} {W : World} {base : Nat} {v : Value} {d : DataW H} {p : List MemPlace}
    (hok : Value.okWide Tryz.prog W .any base 23 v) (h : DataW.Trod enc Tryz.prog W 0 (fun _ => true) true 23 v d p) : ∃ xs : List Int, InI W v xs ∧ ∀ x ∈ xs, (Lit.int .i64 x).wf = true := by
  obtain ⟨a0, len0, cap0, rfl⟩ := okWide_slice Tryz.underlying23 hok
  obtain ⟨fuel, hf⟩ := h
  rcases open_ints Tryz.underlying23 Tryz.underlying3 (by kernel_rfl) hf with ⟨hcs, _⟩ | ⟨x, l, c, zs, hcs, _, hl, hm, hz, _, hcell, hwz⟩
  · simp [Value.cells] at hcs
    obtain ⟨rfl, rfl, rfl⟩ := hcs
    exact inI_of_row_w (.inl ⟨rfl, rfl, rfl, rfl⟩)
  · simp [Value.cells] at hcs
    obtain ⟨rfl, rfl, rfl⟩ := hcs
    exact inI_of_row_w (.inr ⟨_, rfl, hl, hm, by simpa using hz, hcell, hwz⟩)
end Go.Proofs.YtofpaekokmkhgaaGreatDoor
namespace Go.Proofs.YtofpaekokmkhgaaGreatDoor
open Go.ChangeShapes Go.WideShapes Go.ChangeAt Go.RowKit Go.Deep

theorem OwT.drew {w : World} {lo hi : Nat} {v : Value} {x : TourV} (h : OwT w lo hi v x) : OwT w.drew lo hi v x := h
theorem OwT.wide {w : World} {lo hi lo' hi' : Nat} {v : Value} {x : TourV} (h : OwT w lo hi v x) (h1 : lo' ≤ lo) (h2 : hi ≤ hi') (h3 : hi' ≤ w.heap.size) : OwT w lo' hi' v x := by
  obtain ⟨u, rfl, hf⟩ := h
  exact ⟨u, rfl, hf.wide h1 h2 h3⟩
end Go.Proofs.YtofpaekokmkhgaaGreatDoor
