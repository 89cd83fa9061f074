/- HatNamed: the sets of colourings of three helpers, turns 8 to 15, looked at by the kernel. -/
import Derived.Test.YtmkejpdmaclkpaaDoorHatQn
namespace Go.Gh.Hat
set_option linter.unusedVariables false
set_option linter.unusedSimpArgs false

theorem row3_8 : rowNamed 3 8 = true := by decide +kernel
theorem row3_9 : rowNamed 3 9 = true := by decide +kernel
theorem row3_10 : rowNamed 3 10 = true := by decide +kernel
theorem row3_11 : rowNamed 3 11 = true := by decide +kernel
theorem row3_12 : rowNamed 3 12 = true := by decide +kernel
theorem row3_13 : rowNamed 3 13 = true := by decide +kernel
theorem row3_14 : rowNamed 3 14 = true := by decide +kernel
theorem row3_15 : rowNamed 3 15 = true := by decide +kernel

end Go.Gh.Hat
