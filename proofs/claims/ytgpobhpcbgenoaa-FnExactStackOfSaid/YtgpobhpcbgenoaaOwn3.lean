/- Contracts: copies of maps and pictures; maps and pictures of the size of a right one. -/
import Derived.Test.YtgpobhpcbgenoaaNew
import Derived.Test.YtgpobhpcbgenoaaMade
import Derived.Test.YtgpobhpcbgenoaaCell
namespace Go.Proofs.Ytgpobhpcbgenoaa
open Go.RowKit
set_option linter.unusedVariables false

theorem map_n {wn hn n : Nat} (hv : VMap wn hn n) : n = wn * hn ∧ 0 < n ∧ n ≤ 256 := by
  have h1 := hv.2
  have h2 := mul_bounds hv.1.1 hv.1.2.1 hv.1.2.2.1 hv.1.2.2.2.1
  have h3 := hv.1.2.2.2.2
  have h4 : ((wn * hn : Nat) : Int) = (wn : Int) * (hn : Int) := by simp
  omega
end Go.Proofs.Ytgpobhpcbgenoaa
