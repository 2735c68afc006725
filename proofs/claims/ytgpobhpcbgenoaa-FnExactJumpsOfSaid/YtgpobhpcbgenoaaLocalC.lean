/- Contracts: what a cell costs, as the program reckons it (UNDER WAY). -/
import Derived.Test.YtgpobhpcbgenoaaLocalS
import Derived.Test.YtgpobhpcbgenoaaClos
namespace Go.Proofs.Ytgpobhpcbgenoaa
open Go.RowKit
set_option linter.unusedVariables false

/-- The sums on the way. -/
noncomputable def locN (wn hn p0 p1 v0 : Nat) (bs2 : List Nat) (x y d : Nat) : Nat → Nat
  | 0 => (nrm v0)
  | 1 => (ladd (0 < x) (nrm (priceX p0 p1 (d : Int) ((digit (bs2.getD (cellN wn ((x : Int) - 1) (y : Int)) 0) : Nat) : Int))) (nrm v0))
  | 2 => (ladd (x + 1 < wn) (nrm (priceX p0 p1 (d : Int) ((digit (bs2.getD (cellN wn ((x : Int) + 1) (y : Int)) 0) : Nat) : Int))) (ladd (0 < x) (nrm (priceX p0 p1 (d : Int) ((digit (bs2.getD (cellN wn ((x : Int) - 1) (y : Int)) 0) : Nat) : Int))) (nrm v0)))
  | 3 => (ladd (0 < y) (nrm (priceX p0 p1 (d : Int) ((digit (bs2.getD (cellN wn (x : Int) ((y : Int) - 1)) 0) : Nat) : Int))) (ladd (x + 1 < wn) (nrm (priceX p0 p1 (d : Int) ((digit (bs2.getD (cellN wn ((x : Int) + 1) (y : Int)) 0) : Nat) : Int))) (ladd (0 < x) (nrm (priceX p0 p1 (d : Int) ((digit (bs2.getD (cellN wn ((x : Int) - 1) (y : Int)) 0) : Nat) : Int))) (nrm v0))))
  | _ => (ladd (y + 1 < hn) (nrm (priceX p0 p1 (d : Int) ((digit (bs2.getD (cellN wn (x : Int) ((y : Int) + 1)) 0) : Nat) : Int))) (ladd (0 < y) (nrm (priceX p0 p1 (d : Int) ((digit (bs2.getD (cellN wn (x : Int) ((y : Int) - 1)) 0) : Nat) : Int))) (ladd (x + 1 < wn) (nrm (priceX p0 p1 (d : Int) ((digit (bs2.getD (cellN wn ((x : Int) + 1) (y : Int)) 0) : Nat) : Int))) (ladd (0 < x) (nrm (priceX p0 p1 (d : Int) ((digit (bs2.getD (cellN wn ((x : Int) - 1) (y : Int)) 0) : Nat) : Int))) (nrm v0)))))
end Go.Proofs.Ytgpobhpcbgenoaa
