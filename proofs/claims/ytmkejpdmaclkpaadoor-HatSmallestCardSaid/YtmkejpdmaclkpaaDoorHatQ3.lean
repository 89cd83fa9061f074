/- HatSmallest, four helpers: the kernel runs the sets of a quarter. -/
import Derived.Test.YtmkejpdmaclkpaaDoorHatP12b
namespace Go.Gh.Hat
set_option linter.unusedVariables false
set_option linter.unusedSimpArgs false
theorem q48 : runs 70000 3 1024 (some [0,2,13,15]) 49152 = some (some [0,1,14,15]) := by decide +kernel
theorem q49 : runs 70000 3 1024 (some [0,1,14,15]) 50176 = some (some [0,1,14,15]) := by decide +kernel
theorem q50 : runs 70000 3 1024 (some [0,1,14,15]) 51200 = some (some [0,1,14,15]) := by decide +kernel
theorem q51 : runs 70000 3 1024 (some [0,1,14,15]) 52224 = some (some [0,1,14,15]) := by decide +kernel
theorem q52 : runs 70000 3 1024 (some [0,1,14,15]) 53248 = some (some [0,1,14,15]) := by decide +kernel
theorem q53 : runs 70000 3 1024 (some [0,1,14,15]) 54272 = some (some [0,1,14,15]) := by decide +kernel
theorem q54 : runs 70000 3 1024 (some [0,1,14,15]) 55296 = some (some [0,1,14,15]) := by decide +kernel
theorem q55 : runs 70000 3 1024 (some [0,1,14,15]) 56320 = some (some [0,1,14,15]) := by decide +kernel
theorem q56 : runs 70000 3 1024 (some [0,1,14,15]) 57344 = some (some [0,1,14,15]) := by decide +kernel
theorem q57 : runs 70000 3 1024 (some [0,1,14,15]) 58368 = some (some [0,1,14,15]) := by decide +kernel
theorem q58 : runs 70000 3 1024 (some [0,1,14,15]) 59392 = some (some [0,1,14,15]) := by decide +kernel
theorem q59 : runs 70000 3 1024 (some [0,1,14,15]) 60416 = some (some [0,1,14,15]) := by decide +kernel
theorem q60 : runs 70000 3 1024 (some [0,1,14,15]) 61440 = some (some [0,1,14,15]) := by decide +kernel
theorem q61 : runs 70000 3 1024 (some [0,1,14,15]) 62464 = some (some [0,1,14,15]) := by decide +kernel
theorem q62 : runs 70000 3 1024 (some [0,1,14,15]) 63488 = some (some [0,1,14,15]) := by decide +kernel
theorem q63 : runs 70000 3 1024 (some [0,1,14,15]) 64512 = some (some [0,1,14,15]) := by decide +kernel
end Go.Gh.Hat
