/- Numbers drawn from a code. -/
import Derived.Test.YtbipjmaeclgldaaDoorCq
import Derived.Test.YtbipjmaeclgldaaDoorTools
import Derived.Laws.BitsLemmas
import Derived.Test.YtbipjmaeclgldaaDoorStd
namespace Go.Proofs.YtbipjmaeclgldaaDoor
open Go.ChangeShapes Go.WideShapes Go.ChangeAt Go.RowKit

theorem Cur.far {w w2 w5 : World} {p n lo : Nat} {v : Value} (h : Cur w p v n) (h2 : Cur w2 p v n) (hlo : w.heap.size ≤ lo) (hb : Below lo w2 w5) : Cur w5 p v n := by
  obtain ⟨i, hi, hci⟩ := h2.i
  obtain ⟨x, hx⟩ := h2.h
  have hp : p < lo := Nat.lt_of_lt_of_le h.lt hlo
  refine ⟨(hb.cell (p := ⟨p, 0, none⟩) hp).trans h2.b, ⟨i, hi, (hb.cell (p := ⟨p, 1, none⟩) hp).trans hci⟩, ⟨x, (hb.cell (p := ⟨p, 2, none⟩) hp).trans hx⟩, (hb.frozen (p := ⟨p, 1, none⟩) hp).trans h2.f1, (hb.frozen (p := ⟨p, 2, none⟩) hp).trans h2.f2, Nat.lt_of_lt_of_le h2.lt hb.size, ?_⟩
  obtain ⟨A, c, e, h3, h4, h5⟩ := h2.inb
  obtain ⟨A', c', e', _, _, h6⟩ := h.inb
  rw [e] at e'
  injection e' with e1 _ e3
  subst e1
  refine ⟨A, c, e, h3, h4, ?_⟩
  rcases h6 with rfl | ⟨b, off, rfl, h6⟩
  · exact .inl rfl
  · rcases h5 with rfl | ⟨b', off', e4, h5⟩
    · exact .inl rfl
    · injection e4 with e4
      injection e4 with e5 e6 _
      subst e5; subst e6
      refine .inr ⟨b, off, rfl, fun k hk => ?_⟩
      obtain ⟨x, h7, h8, h9⟩ := h5 k hk
      obtain ⟨_, _, _, h10⟩ := h6 k hk
      exact ⟨x, h7, h8, (hb.cell (p := ⟨b, off + k, none⟩) (Nat.lt_of_lt_of_le (block_lt_of_cell h10) hlo)).trans h9⟩
theorem Keep.far {l h lo : Nat} {w w2 w5 : World} (hk : Keep l h w w2) (hb : Below lo w2 w5) (hlo : w.heap.size ≤ lo) : Keep l h w w5 :=
  ⟨hb.os.trans hk.os, hb.tape.trans hk.tape, hb.output.trans hk.output, Nat.le_trans hk.size hb.size, fun k hk' hd => (hb.block k (by omega)).trans (hk.block k hk' hd)⟩
set_option maxHeartbeats 2000000 in
set_option maxRecDepth 100000 in
theorem l01Below_any (p : Nat) (v : Value) (n : Nat) (m : Int) (w : World) (hc : Cur w p v n) (hn : n ≤ 1048576) (h0 : 0 < m) (h1 : m ≤ 256) :
    Calls Tryd.prog 37 #[.pointer (some ⟨p, 0, none⟩), .int .i64 m] w fun e w' => ∃ x : Int, (0 ≤ x ∧ x < m) ∧ e = .returned (.int .i64 x) ∧ Cur w' p v n ∧ Keep p (p + 1) w w' := by
  have HC := Lib.hid hc
  clear hc
  go_enter Tryd.func37, Tryd.ntmps37
  go_wp2_with (go_at_call 32; refine (l01Byte_any p v n _ HC.out hn).mono ?_; rintro e w2 ⟨x, hx, rfl, hc2, hk2⟩; have H2 : Hid (Cur w2 p v n ∧ Keep p (p + 1) w w2) := ⟨hc2, hk2⟩; clear hc2 hk2)
  go_ret
  exact ⟨_, ⟨Int.emod_nonneg _ (by omega), Int.emod_lt_of_pos _ h0⟩, rfl, H2.out.1, H2.out.2⟩
end Go.Proofs.YtbipjmaeclgldaaDoor
namespace Go.Proofs.YtbipjmaeclgldaaDoor
open Go.ChangeShapes Go.WideShapes Go.ChangeAt Go.RowKit

def pairB (n : Nat) (g : List Int) : Bool := match g with
  | [a, b, k] => decide (0 ≤ a) && (decide (a < b) && (decide (b < (n : Int)) && inB k 1 20))
  | _ => false
def samePair (g h : List Int) : Bool := match g, h with
  | [a, b, _], [c, d, _] => a == c && b == d
  | _, _ => false
def rowOk (n : Nat) (gs : List (List Int)) (i : Nat) : Bool := pairB n (gs.getD i []) && (gs.take i).all (fun h => !samePair h (gs.getD i []))
def raceB (ws : List Int) (gs : List (List Int)) : Bool := inB ws.length 2 6 && (ws.all (fun w => inB w 0 200) && (decide (gs.length ≤ 15) && (List.range gs.length).all (rowOk ws.length gs)))
theorem pairB_t {n : Nat} {a b k : Int} : pairB n [a, b, k] = true ↔ 0 ≤ a ∧ a < b ∧ b < (n : Int) ∧ 1 ≤ k ∧ k ≤ 20 := by
  simp only [pairB, Bool.and_eq_true, decide_eq_true_eq, inB_t]
theorem getD_at {gs : List (List Int)} {i : Nat} {g : List Int} (h : gs[i]? = some g) : gs.getD i [] = g := by rw [List.getD_eq_getElem?_getD, h]; rfl
theorem rowOk_go {n i : Nat} {gs : List (List Int)} {g : List Int} (hg : gs[i]? = some g) (hp : pairB n g = true) (h : ∀ (j : Nat) (x : List Int), j < i → gs[j]? = some x → samePair x g = false) : rowOk n gs i = true := by
  rw [rowOk, getD_at hg, hp, Bool.true_and, List.all_eq_true]
  intro x hx
  obtain ⟨j, hj, e⟩ := List.getElem_of_mem hx
  have hj' : j < i := by rw [List.length_take] at hj; omega
  have : gs[j]? = some x := by
    have h1 : (gs.take i)[j]? = some x := by rw [List.getElem?_eq_getElem hj, e]
    rwa [List.getElem?_take, if_pos hj'] at h1
  simp [h j x hj' this]
end Go.Proofs.YtbipjmaeclgldaaDoor
