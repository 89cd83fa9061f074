/- HatNamed: the sets of colourings of three helpers, turns 0 to 7, looked at by the kernel. -/
import Derived.Test.YtmkejpdmaclkpaaDoorHatQn
namespace Go.Gh.Hat
set_option linter.unusedVariables false
set_option linter.unusedSimpArgs false

theorem row1 : ∀ t ∈ List.range 24, rowNamed 1 t = true := by decide +kernel
theorem row2 : ∀ t ∈ List.range 24, rowNamed 2 t = true := by decide +kernel
theorem row3_0 : rowNamed 3 0 = true := by decide +kernel
theorem row3_1 : rowNamed 3 1 = true := by decide +kernel
theorem row3_2 : rowNamed 3 2 = true := by decide +kernel
theorem row3_3 : rowNamed 3 3 = true := by decide +kernel
theorem row3_4 : rowNamed 3 4 = true := by decide +kernel
theorem row3_5 : rowNamed 3 5 = true := by decide +kernel
theorem row3_6 : rowNamed 3 6 = true := by decide +kernel
theorem row3_7 : rowNamed 3 7 = true := by decide +kernel

end Go.Gh.Hat
