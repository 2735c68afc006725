/- Contracts: whether a map is whole for a volume, as the reference asks. -/
import Derived.Test.YthkfbmboiabolaaIsWhole
namespace Go.Proofs.Ythkfbmboiabolaa
open Go.RowKit
set_option linter.unusedVariables false

end Go.Proofs.Ythkfbmboiabolaa
