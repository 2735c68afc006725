/- Contracts: whether a map is whole for a volume. -/
import Derived.Test.YthkfbmboiabolaaWhole
import Derived.Test.YthkfbmboiabolaaFunc
import Derived.Test.YthkfbmboiabolaaVols
import Derived.Test.YthkfbmboiabolaaCube
namespace Go.Proofs.Ythkfbmboiabolaa
open Go.RowKit
set_option linter.unusedVariables false

end Go.Proofs.Ythkfbmboiabolaa
