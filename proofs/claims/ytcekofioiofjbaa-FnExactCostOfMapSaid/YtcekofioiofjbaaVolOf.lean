/- The contract of volumeOf: a volume whose costs are told by a function value. -/
import Derived.Test.YtcekofioiofjbaaHarA
import Derived.Lib.Hide
import Derived.Test.YtcekofioiofjbaaCube
import Derived.Test.YtcekofioiofjbaaMade
import Derived.Test.YtcekofioiofjbaaValid
namespace Go.Proofs.Ytcekofioiofjbaa
open Go.RowKit
set_option linter.unusedVariables false

theorem vol_wh {wn hn dn n : Nat} (hv : VVol wn hn dn n) : wn * hn ≤ 256 := by
  have h1 := hv.1.2.2.2.2
  have h2 : ((wn * hn : Nat) : Int) = (wn : Int) * (hn : Int) := by simp
  omega
theorem vol_n {wn hn dn n : Nat} (hv : VVol wn hn dn n) : n = wn * hn * dn ∧ 0 < n ∧ n ≤ 2048 := by
  have h1 := hv.2.2.2
  have h2 := vol_bounds hv.1 hv.2.1 hv.2.2.1
  have h3 : ((wn * hn * dn : Nat) : Int) = (wn : Int) * (hn : Int) * (dn : Int) := by simp
  omega
end Go.Proofs.Ytcekofioiofjbaa
