/- Contracts of the reference's functions that copy a volume, or make one of zeros. -/
import Derived.Test.YtgpobhpcbgenoaaClos
namespace Go.Proofs.Ytgpobhpcbgenoaa
open Go.RowKit
set_option linter.unusedVariables false

end Go.Proofs.Ytgpobhpcbgenoaa
