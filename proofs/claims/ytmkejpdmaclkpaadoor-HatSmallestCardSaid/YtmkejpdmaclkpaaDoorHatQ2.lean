/- HatSmallest, four helpers: the kernel runs the sets of a quarter. -/
import Derived.Test.YtmkejpdmaclkpaaDoorHatP12b
namespace Go.Gh.Hat
set_option linter.unusedVariables false
set_option linter.unusedSimpArgs false
theorem q32 : runs 70000 3 1024 (some [0,3,13,14]) 32768 = some (some [0,3,13,14]) := by decide +kernel
theorem q33 : runs 70000 3 1024 (some [0,3,13,14]) 33792 = some (some [0,3,13,14]) := by decide +kernel
theorem q34 : runs 70000 3 1024 (some [0,3,13,14]) 34816 = some (some [0,3,13,14]) := by decide +kernel
theorem q35 : runs 70000 3 1024 (some [0,3,13,14]) 35840 = some (some [0,3,13,14]) := by decide +kernel
theorem q36 : runs 70000 3 1024 (some [0,3,13,14]) 36864 = some (some [0,3,13,14]) := by decide +kernel
theorem q37 : runs 70000 3 1024 (some [0,3,13,14]) 37888 = some (some [0,3,13,14]) := by decide +kernel
theorem q38 : runs 70000 3 1024 (some [0,3,13,14]) 38912 = some (some [0,3,13,14]) := by decide +kernel
theorem q39 : runs 70000 3 1024 (some [0,3,13,14]) 39936 = some (some [0,3,13,14]) := by decide +kernel
theorem q40 : runs 70000 3 1024 (some [0,3,13,14]) 40960 = some (some [0,2,13,15]) := by decide +kernel
theorem q41 : runs 70000 3 1024 (some [0,2,13,15]) 41984 = some (some [0,2,13,15]) := by decide +kernel
theorem q42 : runs 70000 3 1024 (some [0,2,13,15]) 43008 = some (some [0,2,13,15]) := by decide +kernel
theorem q43 : runs 70000 3 1024 (some [0,2,13,15]) 44032 = some (some [0,2,13,15]) := by decide +kernel
theorem q44 : runs 70000 3 1024 (some [0,2,13,15]) 45056 = some (some [0,2,13,15]) := by decide +kernel
theorem q45 : runs 70000 3 1024 (some [0,2,13,15]) 46080 = some (some [0,2,13,15]) := by decide +kernel
theorem q46 : runs 70000 3 1024 (some [0,2,13,15]) 47104 = some (some [0,2,13,15]) := by decide +kernel
theorem q47 : runs 70000 3 1024 (some [0,2,13,15]) 48128 = some (some [0,2,13,15]) := by decide +kernel
end Go.Gh.Hat
