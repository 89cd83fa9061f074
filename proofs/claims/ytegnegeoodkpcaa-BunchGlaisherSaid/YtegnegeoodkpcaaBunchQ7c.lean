/- What is tried, looked at by the kernel. -/
import Derived.Test.YtegnegeoodkpcaaBunchP7
namespace Go.Gh.Bunch
set_option linter.unusedVariables false
set_option linter.unusedSimpArgs false
set_option maxRecDepth 100000
theorem r7_20_0 : run7 20 (List.take 100 (al 2000 20 20)) 0 0 = some (7, 0) := by decide +kernel
theorem r7_20_1 : run7 20 (List.take 100 (List.drop 100 (al 2000 20 20))) 7 0 = some (20, 0) := by decide +kernel
theorem r7_20_2 : run7 20 (List.take 100 (List.drop 100 (List.drop 100 (al 2000 20 20)))) 20 0 = some (24, 1) := by decide +kernel
theorem r7_20_3 : run7 20 (List.take 100 (List.drop 100 (List.drop 100 (List.drop 100 (al 2000 20 20))))) 24 1 = some (34, 5) := by decide +kernel
theorem r7_20_4 : run7 20 (List.take 100 (List.drop 100 (List.drop 100 (List.drop 100 (List.drop 100 (al 2000 20 20)))))) 34 5 = some (45, 22) := by decide +kernel
theorem r7_20_5 : run7 20 (List.take 100 (List.drop 100 (List.drop 100 (List.drop 100 (List.drop 100 (List.drop 100 (al 2000 20 20))))))) 45 22 = some (58, 50) := by decide +kernel
theorem r7_20_6 : run7 20 ((List.drop 100 (List.drop 100 (List.drop 100 (List.drop 100 (List.drop 100 (List.drop 100 (al 2000 20 20)))))))) 58 50 = some (64, 64) := by decide +kernel
theorem r7_20 : run7 20 (al 2000 20 20) 0 0 = some (64, 64) := (run7_cut 100 r7_20_0 (run7_cut 100 r7_20_1 (run7_cut 100 r7_20_2 (run7_cut 100 r7_20_3 (run7_cut 100 r7_20_4 (run7_cut 100 r7_20_5 r7_20_6))))))
end Go.Gh.Bunch
