/- SaleKnown: the examples, looked at. -/
import Derived.Test.YtdbaljbhnpchjaaSale9N0
namespace Go.Gh.Sale
set_option linter.unusedVariables false
set_option linter.unusedSimpArgs false
theorem f9_plain : f9 120 = some true := by decide +kernel
end Go.Gh.Sale
