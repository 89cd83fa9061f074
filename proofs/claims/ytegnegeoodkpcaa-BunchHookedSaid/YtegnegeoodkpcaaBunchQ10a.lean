/- What is tried, looked at by the kernel. -/
import Derived.Test.YtegnegeoodkpcaaBunchP10
namespace Go.Gh.Bunch
set_option linter.unusedVariables false
set_option linter.unusedSimpArgs false
set_option maxRecDepth 100000
theorem r10_0_0 : run10 0 ((al 2000 0 0)) 0 0 = some (1, 1) := by decide +kernel
theorem r10_0 : run10 0 (al 2000 0 0) 0 0 = some (1, 1) := r10_0_0
theorem r10_1_0 : run10 1 ((al 2000 1 1)) 0 0 = some (1, 1) := by decide +kernel
theorem r10_1 : run10 1 (al 2000 1 1) 0 0 = some (1, 1) := r10_1_0
theorem r10_2_0 : run10 2 ((al 2000 2 2)) 0 0 = some (0, 0) := by decide +kernel
theorem r10_2 : run10 2 (al 2000 2 2) 0 0 = some (0, 0) := r10_2_0
theorem r10_3_0 : run10 3 ((al 2000 3 3)) 0 0 = some (1, 1) := by decide +kernel
theorem r10_3 : run10 3 (al 2000 3 3) 0 0 = some (1, 1) := r10_3_0
theorem r10_4_0 : run10 4 ((al 2000 4 4)) 0 0 = some (1, 1) := by decide +kernel
theorem r10_4 : run10 4 (al 2000 4 4) 0 0 = some (1, 1) := r10_4_0
theorem r10_5_0 : run10 5 ((al 2000 5 5)) 0 0 = some (1, 1) := by decide +kernel
theorem r10_5 : run10 5 (al 2000 5 5) 0 0 = some (1, 1) := r10_5_0
theorem r10_6_0 : run10 6 ((al 2000 6 6)) 0 0 = some (1, 1) := by decide +kernel
theorem r10_6 : run10 6 (al 2000 6 6) 0 0 = some (1, 1) := r10_6_0
theorem r10_7_0 : run10 7 ((al 2000 7 7)) 0 0 = some (1, 1) := by decide +kernel
theorem r10_7 : run10 7 (al 2000 7 7) 0 0 = some (1, 1) := r10_7_0
theorem r10_8_0 : run10 8 ((al 2000 8 8)) 0 0 = some (2, 2) := by decide +kernel
theorem r10_8 : run10 8 (al 2000 8 8) 0 0 = some (2, 2) := r10_8_0
theorem r10_9_0 : run10 9 ((al 2000 9 9)) 0 0 = some (2, 2) := by decide +kernel
theorem r10_9 : run10 9 (al 2000 9 9) 0 0 = some (2, 2) := r10_9_0
theorem r10_10_0 : run10 10 ((al 2000 10 10)) 0 0 = some (2, 2) := by decide +kernel
theorem r10_10 : run10 10 (al 2000 10 10) 0 0 = some (2, 2) := r10_10_0
theorem r10_11_0 : run10 11 ((al 2000 11 11)) 0 0 = some (2, 2) := by decide +kernel
theorem r10_11 : run10 11 (al 2000 11 11) 0 0 = some (2, 2) := r10_11_0
theorem r10_12_0 : run10 12 ((al 2000 12 12)) 0 0 = some (3, 3) := by decide +kernel
theorem r10_12 : run10 12 (al 2000 12 12) 0 0 = some (3, 3) := r10_12_0
theorem r10_13_0 : run10 13 ((al 2000 13 13)) 0 0 = some (3, 3) := by decide +kernel
theorem r10_13 : run10 13 (al 2000 13 13) 0 0 = some (3, 3) := r10_13_0
theorem r10_14_0 : run10 14 ((al 2000 14 14)) 0 0 = some (3, 3) := by decide +kernel
theorem r10_14 : run10 14 (al 2000 14 14) 0 0 = some (3, 3) := r10_14_0
theorem r10_15_0 : run10 15 ((al 2000 15 15)) 0 0 = some (4, 4) := by decide +kernel
theorem r10_15 : run10 15 (al 2000 15 15) 0 0 = some (4, 4) := r10_15_0
theorem r10_16_0 : run10 16 (List.take 200 (al 2000 16 16)) 0 0 = some (5, 1) := by decide +kernel
theorem r10_16_1 : run10 16 ((List.drop 200 (al 2000 16 16))) 5 1 = some (5, 5) := by decide +kernel
theorem r10_16 : run10 16 (al 2000 16 16) 0 0 = some (5, 5) := (run10_cut 200 r10_16_0 r10_16_1)
theorem r10_17_0 : run10 17 (List.take 200 (al 2000 17 17)) 0 0 = some (4, 0) := by decide +kernel
theorem r10_17_1 : run10 17 ((List.drop 200 (al 2000 17 17))) 4 0 = some (5, 5) := by decide +kernel
theorem r10_17 : run10 17 (al 2000 17 17) 0 0 = some (5, 5) := (run10_cut 200 r10_17_0 r10_17_1)
theorem r10_18_0 : run10 18 (List.take 200 (al 2000 18 18)) 0 0 = some (2, 0) := by decide +kernel
theorem r10_18_1 : run10 18 ((List.drop 200 (al 2000 18 18))) 2 0 = some (5, 5) := by decide +kernel
theorem r10_18 : run10 18 (al 2000 18 18) 0 0 = some (5, 5) := (run10_cut 200 r10_18_0 r10_18_1)
theorem r10_19_0 : run10 19 (List.take 200 (al 2000 19 19)) 0 0 = some (1, 0) := by decide +kernel
theorem r10_19_1 : run10 19 (List.take 200 (List.drop 200 (al 2000 19 19))) 1 0 = some (6, 1) := by decide +kernel
theorem r10_19_2 : run10 19 ((List.drop 200 (List.drop 200 (al 2000 19 19)))) 6 1 = some (6, 6) := by decide +kernel
theorem r10_19 : run10 19 (al 2000 19 19) 0 0 = some (6, 6) := (run10_cut 200 r10_19_0 (run10_cut 200 r10_19_1 r10_19_2))
end Go.Gh.Bunch
