/- What is tried, looked at by the kernel. -/
import Derived.Test.YtegnegeoodkpcaaBunchP8
namespace Go.Gh.Bunch
set_option linter.unusedVariables false
set_option linter.unusedSimpArgs false
set_option maxRecDepth 100000
theorem r8_22_0 : run8 22 (List.take 260 (al 2000 22 22)) 0 0 = some (0, 0) := by decide +kernel
theorem r8_22_1 : run8 22 (List.take 260 (List.drop 260 (al 2000 22 22))) 0 0 = some (0, 1) := by decide +kernel
theorem r8_22_2 : run8 22 (List.take 260 (List.drop 260 (List.drop 260 (al 2000 22 22)))) 0 1 = some (1, 1) := by decide +kernel
theorem r8_22_3 : run8 22 ((List.drop 260 (List.drop 260 (List.drop 260 (al 2000 22 22))))) 1 1 = some (1, 1) := by decide +kernel
theorem r8_22 : run8 22 (al 2000 22 22) 0 0 = some (1, 1) := (run8_cut 260 r8_22_0 (run8_cut 260 r8_22_1 (run8_cut 260 r8_22_2 r8_22_3)))
end Go.Gh.Bunch
