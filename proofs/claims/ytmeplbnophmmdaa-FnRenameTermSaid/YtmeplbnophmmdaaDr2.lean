/- Draws of binding's arguments: weak contracts. -/
import Derived.Test.YtmeplbnophmmdaaDr
namespace Go.Dk
set_option linter.unusedVariables false
open Go.Proofs
end Go.Dk
