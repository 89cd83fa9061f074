/- HatSmallest, four helpers: the kernel runs the sets of a quarter. -/
import Derived.Test.YtmkejpdmaclkpaaDoorHatP12b
namespace Go.Gh.Hat
set_option linter.unusedVariables false
set_option linter.unusedSimpArgs false
theorem q16 : runs 70000 3 1024 (some [0,6,11,13]) 16384 = some (some [0,6,11,13]) := by decide +kernel
theorem q17 : runs 70000 3 1024 (some [0,6,11,13]) 17408 = some (some [0,6,11,13]) := by decide +kernel
theorem q18 : runs 70000 3 1024 (some [0,6,11,13]) 18432 = some (some [0,5,11,14]) := by decide +kernel
theorem q19 : runs 70000 3 1024 (some [0,5,11,14]) 19456 = some (some [0,5,11,14]) := by decide +kernel
theorem q20 : runs 70000 3 1024 (some [0,5,11,14]) 20480 = some (some [0,5,11,14]) := by decide +kernel
theorem q21 : runs 70000 3 1024 (some [0,5,11,14]) 21504 = some (some [0,5,11,14]) := by decide +kernel
theorem q22 : runs 70000 3 1024 (some [0,5,11,14]) 22528 = some (some [0,5,11,14]) := by decide +kernel
theorem q23 : runs 70000 3 1024 (some [0,5,11,14]) 23552 = some (some [0,5,11,14]) := by decide +kernel
theorem q24 : runs 70000 3 1024 (some [0,5,11,14]) 24576 = some (some [0,3,13,14]) := by decide +kernel
theorem q25 : runs 70000 3 1024 (some [0,3,13,14]) 25600 = some (some [0,3,13,14]) := by decide +kernel
theorem q26 : runs 70000 3 1024 (some [0,3,13,14]) 26624 = some (some [0,3,13,14]) := by decide +kernel
theorem q27 : runs 70000 3 1024 (some [0,3,13,14]) 27648 = some (some [0,3,13,14]) := by decide +kernel
theorem q28 : runs 70000 3 1024 (some [0,3,13,14]) 28672 = some (some [0,3,13,14]) := by decide +kernel
theorem q29 : runs 70000 3 1024 (some [0,3,13,14]) 29696 = some (some [0,3,13,14]) := by decide +kernel
theorem q30 : runs 70000 3 1024 (some [0,3,13,14]) 30720 = some (some [0,3,13,14]) := by decide +kernel
theorem q31 : runs 70000 3 1024 (some [0,3,13,14]) 31744 = some (some [0,3,13,14]) := by decide +kernel
end Go.Gh.Hat
