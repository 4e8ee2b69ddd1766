/- Comparing orders: what is decided of every order of at most six numbers. -/
import Derived.Test.YtnjomfmmnkjhfaaMdp
import Derived.Test.YtnjomfmmnkjhfaaFoot
import Derived.Test.YtnjomfmmnkjhfaaCommon
import Derived.Test.YtnjomfmmnkjhfaaCmp
import Derived.Test.YtnjomfmmnkjhfaaCount
namespace Go.Proofs.Ytnjomfmmnkjhfaa
open Go.ChangeShapes Go.WideShapes Go.ChangeAt Go.RowKit

def beforeF : List Int → List Int → Bool
  | [], _ => false
  | _ :: _, [] => false
  | x :: a, y :: b => if x = y then beforeF a b else decide (x < y)
/-- What is looked up of one order q of the numbers below n. -/
def fcmB (n : Nat) (q : List Int) : Bool :=
  let U := upto n
  let d := dist q U
  let f := sumG (footG q U) U
  let l := mostU q U n
  decide ((d : Int) ≤ f ∧ f ≤ 2 * (d : Int) ∧ 1 ≤ l ∧ (n : Int) - l ≤ (d : Int)) &&
  ((decide (l = (n : Int)) == (q == U)) && ((mostU (invL q) U n == l) && ((decide (d = 0) == (q == U)) &&
  (ladB (invL q) && ((compL q (invL q) == U) && ((compL (invL q) q == U) &&
  (if nextOk q then ladB (nextF q) && beforeF q (nextF q) else decide ((d : Int) = (n : Int) * ((n : Int) - 1) / 2))))))))
theorem fcm_all : ∀ n : Fin 7, 1 ≤ n.val → (allO n.val).all (fcmB n.val) = true := by decide +kernel
end Go.Proofs.Ytnjomfmmnkjhfaa
