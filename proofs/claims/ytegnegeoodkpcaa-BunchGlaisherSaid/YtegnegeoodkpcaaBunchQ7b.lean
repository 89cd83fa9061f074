/- What is tried, looked at by the kernel. -/
import Derived.Test.YtegnegeoodkpcaaBunchP7
namespace Go.Gh.Bunch
set_option linter.unusedVariables false
set_option linter.unusedSimpArgs false
set_option maxRecDepth 100000
theorem r7_18_0 : run7 18 (List.take 100 (al 2000 18 18)) 0 0 = some (10, 0) := by decide +kernel
theorem r7_18_1 : run7 18 (List.take 100 (List.drop 100 (al 2000 18 18))) 10 0 = some (18, 2) := by decide +kernel
theorem r7_18_2 : run7 18 (List.take 100 (List.drop 100 (List.drop 100 (al 2000 18 18)))) 18 2 = some (31, 14) := by decide +kernel
theorem r7_18_3 : run7 18 ((List.drop 100 (List.drop 100 (List.drop 100 (al 2000 18 18))))) 31 14 = some (46, 46) := by decide +kernel
theorem r7_18 : run7 18 (al 2000 18 18) 0 0 = some (46, 46) := (run7_cut 100 r7_18_0 (run7_cut 100 r7_18_1 (run7_cut 100 r7_18_2 r7_18_3)))
theorem r7_19_0 : run7 19 (List.take 100 (al 2000 19 19)) 0 0 = some (8, 0) := by decide +kernel
theorem r7_19_1 : run7 19 (List.take 100 (List.drop 100 (al 2000 19 19))) 8 0 = some (18, 0) := by decide +kernel
theorem r7_19_2 : run7 19 (List.take 100 (List.drop 100 (List.drop 100 (al 2000 19 19)))) 18 0 = some (30, 6) := by decide +kernel
theorem r7_19_3 : run7 19 (List.take 100 (List.drop 100 (List.drop 100 (List.drop 100 (al 2000 19 19))))) 30 6 = some (40, 21) := by decide +kernel
theorem r7_19_4 : run7 19 ((List.drop 100 (List.drop 100 (List.drop 100 (List.drop 100 (al 2000 19 19)))))) 40 21 = some (54, 54) := by decide +kernel
theorem r7_19 : run7 19 (al 2000 19 19) 0 0 = some (54, 54) := (run7_cut 100 r7_19_0 (run7_cut 100 r7_19_1 (run7_cut 100 r7_19_2 (run7_cut 100 r7_19_3 r7_19_4))))
end Go.Gh.Bunch
