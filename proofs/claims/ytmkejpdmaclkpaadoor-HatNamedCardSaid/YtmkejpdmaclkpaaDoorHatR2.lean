/- HatNamed: the sets of colourings of three helpers, turns 16 to 23, looked at by the kernel. -/
import Derived.Test.YtmkejpdmaclkpaaDoorHatQn
namespace Go.Gh.Hat
set_option linter.unusedVariables false
set_option linter.unusedSimpArgs false

theorem row3_16 : rowNamed 3 16 = true := by decide +kernel
theorem row3_17 : rowNamed 3 17 = true := by decide +kernel
theorem row3_18 : rowNamed 3 18 = true := by decide +kernel
theorem row3_19 : rowNamed 3 19 = true := by decide +kernel
theorem row3_20 : rowNamed 3 20 = true := by decide +kernel
theorem row3_21 : rowNamed 3 21 = true := by decide +kernel
theorem row3_22 : rowNamed 3 22 = true := by decide +kernel
theorem row3_23 : rowNamed 3 23 = true := by decide +kernel

end Go.Gh.Hat
