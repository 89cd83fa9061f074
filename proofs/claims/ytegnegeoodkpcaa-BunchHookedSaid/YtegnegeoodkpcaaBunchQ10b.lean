/- What is tried, looked at by the kernel. -/
import Derived.Test.YtegnegeoodkpcaaBunchP10
namespace Go.Gh.Bunch
set_option linter.unusedVariables false
set_option linter.unusedSimpArgs false
set_option maxRecDepth 100000
theorem r10_20_0 : run10 20 (List.take 200 (al 2000 20 20)) 0 0 = some (1, 0) := by decide +kernel
theorem r10_20_1 : run10 20 (List.take 200 (List.drop 200 (al 2000 20 20))) 1 0 = some (5, 0) := by decide +kernel
theorem r10_20_2 : run10 20 (List.take 200 (List.drop 200 (List.drop 200 (al 2000 20 20)))) 5 0 = some (7, 4) := by decide +kernel
theorem r10_20_3 : run10 20 ((List.drop 200 (List.drop 200 (List.drop 200 (al 2000 20 20))))) 7 4 = some (7, 7) := by decide +kernel
theorem r10_20 : run10 20 (al 2000 20 20) 0 0 = some (7, 7) := (run10_cut 200 r10_20_0 (run10_cut 200 r10_20_1 (run10_cut 200 r10_20_2 r10_20_3)))
theorem r10_21_0 : run10 21 (List.take 200 (al 2000 21 21)) 0 0 = some (0, 0) := by decide +kernel
theorem r10_21_1 : run10 21 (List.take 200 (List.drop 200 (al 2000 21 21))) 0 0 = some (5, 0) := by decide +kernel
theorem r10_21_2 : run10 21 (List.take 200 (List.drop 200 (List.drop 200 (al 2000 21 21)))) 5 0 = some (7, 1) := by decide +kernel
theorem r10_21_3 : run10 21 ((List.drop 200 (List.drop 200 (List.drop 200 (al 2000 21 21))))) 7 1 = some (8, 8) := by decide +kernel
theorem r10_21 : run10 21 (al 2000 21 21) 0 0 = some (8, 8) := (run10_cut 200 r10_21_0 (run10_cut 200 r10_21_1 (run10_cut 200 r10_21_2 r10_21_3)))
end Go.Gh.Bunch
