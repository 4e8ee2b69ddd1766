/- How many elements a small set has: the library's OnesCount at numbers below 256. -/
import Derived.Test.YtoppjohbmalhnaaDoorMo
namespace Go.Proofs.YtoppjohbmalhnaaDoor
open Go.ChangeShapes Go.WideShapes Go.ChangeAt Go.RowKit

/-- The steps of the count. -/
def pop1 (s : Nat) : Nat := (s / 2) &&& 85
def pop2 (s : Nat) : Nat := s &&& 85
def pop3 (s : Nat) : Nat := ((pop1 s + pop2 s) / 4) &&& 51
def pop4 (s : Nat) : Nat := (pop1 s + pop2 s) &&& 51
def pop5 (s : Nat) : Nat := ((pop3 s + pop4 s) / 16 + (pop3 s + pop4 s)) &&& 15
structure PopOk (s : Nat) : Prop where
  h1 : bits BinOp.and IntKind.u64 ((s : Int) / 2) 6148914691236517205 = (pop1 s : Nat)
  h2 : bits BinOp.and IntKind.u64 (s : Int) 6148914691236517205 = (pop2 s : Nat)
  b1 : pop1 s ≤ 85
  b2 : pop2 s ≤ 85
  h3 : bits BinOp.and IntKind.u64 (((pop1 s : Nat) + (pop2 s : Nat) : Int) / 4) 3689348814741910323 = (pop3 s : Nat)
  h4 : bits BinOp.and IntKind.u64 ((pop1 s : Nat) + (pop2 s : Nat) : Int) 3689348814741910323 = (pop4 s : Nat)
  b3 : pop3 s ≤ 51
  b4 : pop4 s ≤ 51
  h5 : bits BinOp.and IntKind.u64 (((pop3 s : Nat) + (pop4 s : Nat) : Int) / 16 + ((pop3 s : Nat) + (pop4 s : Nat))) 1085102592571150095 = (pop5 s : Nat)
  b5 : pop5 s ≤ 15
  h6 : bits BinOp.and IntKind.i64 ((pop5 s : Nat) : Int) 127 = (cntL s : Nat)
theorem pop_all : ∀ s : Fin 256,
    (bits BinOp.and IntKind.u64 ((s.val : Int) / 2) 6148914691236517205 = (pop1 s.val : Nat) ∧ bits BinOp.and IntKind.u64 (s.val : Int) 6148914691236517205 = (pop2 s.val : Nat) ∧ pop1 s.val ≤ 85 ∧ pop2 s.val ≤ 85) ∧
    (bits BinOp.and IntKind.u64 (((pop1 s.val : Nat) + (pop2 s.val : Nat) : Int) / 4) 3689348814741910323 = (pop3 s.val : Nat) ∧ bits BinOp.and IntKind.u64 ((pop1 s.val : Nat) + (pop2 s.val : Nat) : Int) 3689348814741910323 = (pop4 s.val : Nat) ∧ pop3 s.val ≤ 51 ∧ pop4 s.val ≤ 51) ∧
    (bits BinOp.and IntKind.u64 (((pop3 s.val : Nat) + (pop4 s.val : Nat) : Int) / 16 + ((pop3 s.val : Nat) + (pop4 s.val : Nat))) 1085102592571150095 = (pop5 s.val : Nat) ∧ pop5 s.val ≤ 15 ∧ bits BinOp.and IntKind.i64 ((pop5 s.val : Nat) : Int) 127 = (cntL s.val : Nat)) := by decide +kernel
theorem pop_ok {s : Nat} (hs : s < 256) : PopOk s := by
  obtain ⟨⟨a1, a2, a3, a4⟩, ⟨a5, a6, a7, a8⟩, a9, a10, a11⟩ := pop_all ⟨s, hs⟩
  exact ⟨a1, a2, a3, a4, a5, a6, a7, a8, a9, a10, a11⟩
set_option maxHeartbeats 2000000 in
theorem onesCount64_any (s : Nat) (w : World) (hs : s < 256) :
    Calls Tryd.prog 78 #[.int .u64 (s : Int)] w fun e w' => e = .returned (.int .i64 (cntL s : Nat)) ∧ w = w' := by
  obtain ⟨h1, h2, b1, b2, h3, h4, b3, b4, h5, b5, h6⟩ := pop_ok hs
  generalize pop1 s = p1 at *
  generalize pop2 s = p2 at *
  generalize pop3 s = p3 at *
  generalize pop4 s = p4 at *
  generalize pop5 s = p5 at *
  generalize cntL s = C at *
  have e1 : IntKind.u64.wrap ((p1 : Int) + p2) = (p1 : Int) + p2 := by rw [IntKind.wrap_u64]; omega
  go_enter Tryd.func78, Tryd.ntmps78
  go_wp2
  go_ret
  have e2 : (p5 : Int) + p5 / 256 + ((p5 : Int) + p5 / 256) / 65536 + ((p5 : Int) + p5 / 256 + ((p5 : Int) + p5 / 256) / 65536) / 4294967296 = p5 := by omega
  exact ⟨ret_int (by rw [e2]; exact h6), rfl⟩

theorem onesCount_any (s : Nat) (w : World) (hs : s < 256) :
    Calls Tryd.prog 69 #[.int .u64 (s : Int)] w fun e w' => e = .returned (.int .i64 (cntL s : Nat)) ∧ w = w' := by
  have HC := Lib.hid (fun W => onesCount64_any s W hs)
  go_enter Tryd.func69, Tryd.ntmps69
  go_wp2_with (go_at_call 78; refine (HC.out _).mono ?_; rintro e w' ⟨rfl, rfl⟩)
  go_ret
  exact ⟨rfl, rfl⟩
end Go.Proofs.YtoppjohbmalhnaaDoor
