/- Contracts: what a cell costs, as the reference reckons it. -/
import Derived.Test.YtgpobhpcbgenoaaDigit
import Derived.Test.YtgpobhpcbgenoaaPrice
namespace Go.Proofs.Ytgpobhpcbgenoaa
open Go.RowKit
set_option linter.unusedVariables false

def ladd (b : Prop) [Decidable b] (q s : Nat) : Nat := if b then fop .add s q else s
/-- What a disparity of a cell costs. -/
noncomputable def locS (wn hn dn p0 p1 : Nat) (bs bs2 : List Nat) (x y d : Nat) : Nat :=
  (ladd (y + 1 < hn) (nrm (priceX p0 p1 (d : Int) ((digit (bs2.getD (cellN wn (x : Int) ((y : Int) + 1)) 0) : Nat) : Int))) (ladd (0 < y) (nrm (priceX p0 p1 (d : Int) ((digit (bs2.getD (cellN wn (x : Int) ((y : Int) - 1)) 0) : Nat) : Int))) (ladd (x + 1 < wn) (nrm (priceX p0 p1 (d : Int) ((digit (bs2.getD (cellN wn ((x : Int) + 1) (y : Int)) 0) : Nat) : Int))) (ladd (0 < x) (nrm (priceX p0 p1 (d : Int) ((digit (bs2.getD (cellN wn ((x : Int) - 1) (y : Int)) 0) : Nat) : Int))) (nrm (bs.getD (cellN wn (x : Int) (y : Int) * dn + d) 0))))))
end Go.Proofs.Ytgpobhpcbgenoaa
