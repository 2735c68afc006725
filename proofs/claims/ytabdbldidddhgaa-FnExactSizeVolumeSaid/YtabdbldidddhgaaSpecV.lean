/- Contracts of the reference's functions that copy a volume, or make one of zeros. -/
import Derived.Test.YtabdbldidddhgaaClos
namespace Go.Proofs.Ytabdbldidddhgaa
open Go.RowKit
set_option linter.unusedVariables false

end Go.Proofs.Ytabdbldidddhgaa
