/- The plain law of BunchKnown: by evaluation. -/
import Derived.Test.YtegnegeoodkpcaaBunch11N0
namespace Go.Gh.Bunch
set_option linter.unusedVariables false
set_option linter.unusedSimpArgs false

set_option maxRecDepth 100000 in
theorem f11_plain : f11 100 = some true := by decide +kernel

end Go.Gh.Bunch
