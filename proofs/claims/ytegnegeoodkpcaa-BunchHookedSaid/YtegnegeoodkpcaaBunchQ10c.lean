/- What is tried, looked at by the kernel. -/
import Derived.Test.YtegnegeoodkpcaaBunchP10
namespace Go.Gh.Bunch
set_option linter.unusedVariables false
set_option linter.unusedSimpArgs false
set_option maxRecDepth 100000
theorem r10_22_0 : run10 22 (List.take 200 (al 2000 22 22)) 0 0 = some (0, 0) := by decide +kernel
theorem r10_22_1 : run10 22 (List.take 200 (List.drop 200 (al 2000 22 22))) 0 0 = some (2, 0) := by decide +kernel
theorem r10_22_2 : run10 22 (List.take 200 (List.drop 200 (List.drop 200 (al 2000 22 22)))) 2 0 = some (5, 0) := by decide +kernel
theorem r10_22_3 : run10 22 (List.take 200 (List.drop 200 (List.drop 200 (List.drop 200 (al 2000 22 22))))) 5 0 = some (7, 1) := by decide +kernel
theorem r10_22_4 : run10 22 (List.take 200 (List.drop 200 (List.drop 200 (List.drop 200 (List.drop 200 (al 2000 22 22)))))) 7 1 = some (8, 7) := by decide +kernel
theorem r10_22_5 : run10 22 ((List.drop 200 (List.drop 200 (List.drop 200 (List.drop 200 (List.drop 200 (al 2000 22 22))))))) 8 7 = some (8, 8) := by decide +kernel
theorem r10_22 : run10 22 (al 2000 22 22) 0 0 = some (8, 8) := (run10_cut 200 r10_22_0 (run10_cut 200 r10_22_1 (run10_cut 200 r10_22_2 (run10_cut 200 r10_22_3 (run10_cut 200 r10_22_4 r10_22_5)))))
end Go.Gh.Bunch
