/- HatSmallest, four helpers: the kernel runs the sets of a quarter. -/
import Derived.Test.YtmkejpdmaclkpaaDoorHatP12b
namespace Go.Gh.Hat
set_option linter.unusedVariables false
set_option linter.unusedSimpArgs false
theorem q0 : runs 70000 3 1024 none 0 = some (some [6,7,8,9]) := by decide +kernel
theorem q1 : runs 70000 3 1024 (some [6,7,8,9]) 1024 = some (some [4,7,9,10]) := by decide +kernel
theorem q2 : runs 70000 3 1024 (some [4,7,9,10]) 2048 = some (some [4,6,9,11]) := by decide +kernel
theorem q3 : runs 70000 3 1024 (some [4,6,9,11]) 3072 = some (some [4,5,10,11]) := by decide +kernel
theorem q4 : runs 70000 3 1024 (some [4,5,10,11]) 4096 = some (some [2,7,9,12]) := by decide +kernel
theorem q5 : runs 70000 3 1024 (some [2,7,9,12]) 5120 = some (some [1,7,10,12]) := by decide +kernel
theorem q6 : runs 70000 3 1024 (some [1,7,10,12]) 6144 = some (some [0,7,11,12]) := by decide +kernel
theorem q7 : runs 70000 3 1024 (some [0,7,11,12]) 7168 = some (some [0,7,11,12]) := by decide +kernel
theorem q8 : runs 70000 3 1024 (some [0,7,11,12]) 8192 = some (some [0,7,11,12]) := by decide +kernel
theorem q9 : runs 70000 3 1024 (some [0,7,11,12]) 9216 = some (some [0,7,10,13]) := by decide +kernel
theorem q10 : runs 70000 3 1024 (some [0,7,10,13]) 10240 = some (some [0,6,11,13]) := by decide +kernel
theorem q11 : runs 70000 3 1024 (some [0,6,11,13]) 11264 = some (some [0,6,11,13]) := by decide +kernel
theorem q12 : runs 70000 3 1024 (some [0,6,11,13]) 12288 = some (some [0,6,11,13]) := by decide +kernel
theorem q13 : runs 70000 3 1024 (some [0,6,11,13]) 13312 = some (some [0,6,11,13]) := by decide +kernel
theorem q14 : runs 70000 3 1024 (some [0,6,11,13]) 14336 = some (some [0,6,11,13]) := by decide +kernel
theorem q15 : runs 70000 3 1024 (some [0,6,11,13]) 15360 = some (some [0,6,11,13]) := by decide +kernel
end Go.Gh.Hat
