/- What is tried, looked at by the kernel. -/
import Derived.Test.YtegnegeoodkpcaaBunchP8
namespace Go.Gh.Bunch
set_option linter.unusedVariables false
set_option linter.unusedSimpArgs false
set_option maxRecDepth 100000
theorem r8_20_0 : run8 20 (List.take 260 (al 2000 20 20)) 0 0 = some (-1, 0) := by decide +kernel
theorem r8_20_1 : run8 20 (List.take 260 (List.drop 260 (al 2000 20 20))) (-1) 0 = some (3, 0) := by decide +kernel
theorem r8_20_2 : run8 20 ((List.drop 260 (List.drop 260 (al 2000 20 20)))) 3 0 = some (0, 0) := by decide +kernel
theorem r8_20 : run8 20 (al 2000 20 20) 0 0 = some (0, 0) := (run8_cut 260 r8_20_0 (run8_cut 260 r8_20_1 r8_20_2))
theorem r8_21_0 : run8 21 (List.take 260 (al 2000 21 21)) 0 0 = some (0, 0) := by decide +kernel
theorem r8_21_1 : run8 21 (List.take 260 (List.drop 260 (al 2000 21 21))) 0 0 = some (-1, 0) := by decide +kernel
theorem r8_21_2 : run8 21 (List.take 260 (List.drop 260 (List.drop 260 (al 2000 21 21)))) (-1) 0 = some (-1, 0) := by decide +kernel
theorem r8_21_3 : run8 21 ((List.drop 260 (List.drop 260 (List.drop 260 (al 2000 21 21))))) (-1) 0 = some (0, 0) := by decide +kernel
theorem r8_21 : run8 21 (al 2000 21 21) 0 0 = some (0, 0) := (run8_cut 260 r8_21_0 (run8_cut 260 r8_21_1 (run8_cut 260 r8_21_2 r8_21_3)))
end Go.Gh.Bunch
