/- What is tried, looked at by the kernel. -/
import Derived.Test.YtegnegeoodkpcaaBunchP8
namespace Go.Gh.Bunch
set_option linter.unusedVariables false
set_option linter.unusedSimpArgs false
set_option maxRecDepth 100000
theorem r8_0_0 : run8 0 ((al 2000 0 0)) 0 0 = some (1, 1) := by decide +kernel
theorem r8_0 : run8 0 (al 2000 0 0) 0 0 = some (1, 1) := r8_0_0
theorem r8_1_0 : run8 1 ((al 2000 1 1)) 0 0 = some (-1, 1) := by decide +kernel
theorem r8_1 : run8 1 (al 2000 1 1) 0 0 = some (-1, 1) := r8_1_0
theorem r8_2_0 : run8 2 ((al 2000 2 2)) 0 0 = some (-1, 1) := by decide +kernel
theorem r8_2 : run8 2 (al 2000 2 2) 0 0 = some (-1, 1) := r8_2_0
theorem r8_3_0 : run8 3 ((al 2000 3 3)) 0 0 = some (0, 0) := by decide +kernel
theorem r8_3 : run8 3 (al 2000 3 3) 0 0 = some (0, 0) := r8_3_0
theorem r8_4_0 : run8 4 ((al 2000 4 4)) 0 0 = some (0, 0) := by decide +kernel
theorem r8_4 : run8 4 (al 2000 4 4) 0 0 = some (0, 0) := r8_4_0
theorem r8_5_0 : run8 5 ((al 2000 5 5)) 0 0 = some (1, 1) := by decide +kernel
theorem r8_5 : run8 5 (al 2000 5 5) 0 0 = some (1, 1) := r8_5_0
theorem r8_6_0 : run8 6 ((al 2000 6 6)) 0 0 = some (0, 0) := by decide +kernel
theorem r8_6 : run8 6 (al 2000 6 6) 0 0 = some (0, 0) := r8_6_0
theorem r8_7_0 : run8 7 ((al 2000 7 7)) 0 0 = some (1, 1) := by decide +kernel
theorem r8_7 : run8 7 (al 2000 7 7) 0 0 = some (1, 1) := r8_7_0
theorem r8_8_0 : run8 8 ((al 2000 8 8)) 0 0 = some (0, 0) := by decide +kernel
theorem r8_8 : run8 8 (al 2000 8 8) 0 0 = some (0, 0) := r8_8_0
theorem r8_9_0 : run8 9 ((al 2000 9 9)) 0 0 = some (0, 0) := by decide +kernel
theorem r8_9 : run8 9 (al 2000 9 9) 0 0 = some (0, 0) := r8_9_0
theorem r8_10_0 : run8 10 ((al 2000 10 10)) 0 0 = some (0, 0) := by decide +kernel
theorem r8_10 : run8 10 (al 2000 10 10) 0 0 = some (0, 0) := r8_10_0
theorem r8_11_0 : run8 11 ((al 2000 11 11)) 0 0 = some (0, 0) := by decide +kernel
theorem r8_11 : run8 11 (al 2000 11 11) 0 0 = some (0, 0) := r8_11_0
theorem r8_12_0 : run8 12 ((al 2000 12 12)) 0 0 = some (-1, 1) := by decide +kernel
theorem r8_12 : run8 12 (al 2000 12 12) 0 0 = some (-1, 1) := r8_12_0
theorem r8_13_0 : run8 13 ((al 2000 13 13)) 0 0 = some (0, 0) := by decide +kernel
theorem r8_13 : run8 13 (al 2000 13 13) 0 0 = some (0, 0) := r8_13_0
theorem r8_14_0 : run8 14 ((al 2000 14 14)) 0 0 = some (0, 0) := by decide +kernel
theorem r8_14 : run8 14 (al 2000 14 14) 0 0 = some (0, 0) := r8_14_0
theorem r8_15_0 : run8 15 ((al 2000 15 15)) 0 0 = some (-1, 1) := by decide +kernel
theorem r8_15 : run8 15 (al 2000 15 15) 0 0 = some (-1, 1) := r8_15_0
theorem r8_16_0 : run8 16 ((al 2000 16 16)) 0 0 = some (0, 0) := by decide +kernel
theorem r8_16 : run8 16 (al 2000 16 16) 0 0 = some (0, 0) := r8_16_0
theorem r8_17_0 : run8 17 (List.take 260 (al 2000 17 17)) 0 0 = some (1, 0) := by decide +kernel
theorem r8_17_1 : run8 17 ((List.drop 260 (al 2000 17 17))) 1 0 = some (0, 0) := by decide +kernel
theorem r8_17 : run8 17 (al 2000 17 17) 0 0 = some (0, 0) := (run8_cut 260 r8_17_0 r8_17_1)
theorem r8_18_0 : run8 18 (List.take 260 (al 2000 18 18)) 0 0 = some (1, 0) := by decide +kernel
theorem r8_18_1 : run8 18 ((List.drop 260 (al 2000 18 18))) 1 0 = some (0, 0) := by decide +kernel
theorem r8_18 : run8 18 (al 2000 18 18) 0 0 = some (0, 0) := (run8_cut 260 r8_18_0 r8_18_1)
theorem r8_19_0 : run8 19 (List.take 260 (al 2000 19 19)) 0 0 = some (-1, 0) := by decide +kernel
theorem r8_19_1 : run8 19 ((List.drop 260 (al 2000 19 19))) (-1) 0 = some (0, 0) := by decide +kernel
theorem r8_19 : run8 19 (al 2000 19 19) 0 0 = some (0, 0) := (run8_cut 260 r8_19_0 r8_19_1)
end Go.Gh.Bunch
