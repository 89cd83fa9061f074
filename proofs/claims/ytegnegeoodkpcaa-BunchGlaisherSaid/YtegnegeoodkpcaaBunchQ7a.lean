/- What is tried, looked at by the kernel. -/
import Derived.Test.YtegnegeoodkpcaaBunchP7
namespace Go.Gh.Bunch
set_option linter.unusedVariables false
set_option linter.unusedSimpArgs false
set_option maxRecDepth 100000
theorem r7_0_0 : run7 0 ((al 2000 0 0)) 0 0 = some (1, 1) := by decide +kernel
theorem r7_0 : run7 0 (al 2000 0 0) 0 0 = some (1, 1) := r7_0_0
theorem r7_1_0 : run7 1 ((al 2000 1 1)) 0 0 = some (1, 1) := by decide +kernel
theorem r7_1 : run7 1 (al 2000 1 1) 0 0 = some (1, 1) := r7_1_0
theorem r7_2_0 : run7 2 ((al 2000 2 2)) 0 0 = some (1, 1) := by decide +kernel
theorem r7_2 : run7 2 (al 2000 2 2) 0 0 = some (1, 1) := r7_2_0
theorem r7_3_0 : run7 3 ((al 2000 3 3)) 0 0 = some (2, 2) := by decide +kernel
theorem r7_3 : run7 3 (al 2000 3 3) 0 0 = some (2, 2) := r7_3_0
theorem r7_4_0 : run7 4 ((al 2000 4 4)) 0 0 = some (2, 2) := by decide +kernel
theorem r7_4 : run7 4 (al 2000 4 4) 0 0 = some (2, 2) := r7_4_0
theorem r7_5_0 : run7 5 ((al 2000 5 5)) 0 0 = some (3, 3) := by decide +kernel
theorem r7_5 : run7 5 (al 2000 5 5) 0 0 = some (3, 3) := r7_5_0
theorem r7_6_0 : run7 6 ((al 2000 6 6)) 0 0 = some (4, 4) := by decide +kernel
theorem r7_6 : run7 6 (al 2000 6 6) 0 0 = some (4, 4) := r7_6_0
theorem r7_7_0 : run7 7 ((al 2000 7 7)) 0 0 = some (5, 5) := by decide +kernel
theorem r7_7 : run7 7 (al 2000 7 7) 0 0 = some (5, 5) := r7_7_0
theorem r7_8_0 : run7 8 ((al 2000 8 8)) 0 0 = some (6, 6) := by decide +kernel
theorem r7_8 : run7 8 (al 2000 8 8) 0 0 = some (6, 6) := r7_8_0
theorem r7_9_0 : run7 9 ((al 2000 9 9)) 0 0 = some (8, 8) := by decide +kernel
theorem r7_9 : run7 9 (al 2000 9 9) 0 0 = some (8, 8) := r7_9_0
theorem r7_10_0 : run7 10 ((al 2000 10 10)) 0 0 = some (10, 10) := by decide +kernel
theorem r7_10 : run7 10 (al 2000 10 10) 0 0 = some (10, 10) := r7_10_0
theorem r7_11_0 : run7 11 ((al 2000 11 11)) 0 0 = some (12, 12) := by decide +kernel
theorem r7_11 : run7 11 (al 2000 11 11) 0 0 = some (12, 12) := r7_11_0
theorem r7_12_0 : run7 12 ((al 2000 12 12)) 0 0 = some (15, 15) := by decide +kernel
theorem r7_12 : run7 12 (al 2000 12 12) 0 0 = some (15, 15) := r7_12_0
theorem r7_13_0 : run7 13 (List.take 100 (al 2000 13 13)) 0 0 = some (17, 17) := by decide +kernel
theorem r7_13_1 : run7 13 ((List.drop 100 (al 2000 13 13))) 17 17 = some (18, 18) := by decide +kernel
theorem r7_13 : run7 13 (al 2000 13 13) 0 0 = some (18, 18) := (run7_cut 100 r7_13_0 r7_13_1)
theorem r7_14_0 : run7 14 (List.take 100 (al 2000 14 14)) 0 0 = some (14, 5) := by decide +kernel
theorem r7_14_1 : run7 14 ((List.drop 100 (al 2000 14 14))) 14 5 = some (22, 22) := by decide +kernel
theorem r7_14 : run7 14 (al 2000 14 14) 0 0 = some (22, 22) := (run7_cut 100 r7_14_0 r7_14_1)
theorem r7_15_0 : run7 15 (List.take 100 (al 2000 15 15)) 0 0 = some (13, 1) := by decide +kernel
theorem r7_15_1 : run7 15 ((List.drop 100 (al 2000 15 15))) 13 1 = some (27, 27) := by decide +kernel
theorem r7_15 : run7 15 (al 2000 15 15) 0 0 = some (27, 27) := (run7_cut 100 r7_15_0 r7_15_1)
theorem r7_16_0 : run7 16 (List.take 100 (al 2000 16 16)) 0 0 = some (13, 0) := by decide +kernel
theorem r7_16_1 : run7 16 (List.take 100 (List.drop 100 (al 2000 16 16))) 13 0 = some (25, 17) := by decide +kernel
theorem r7_16_2 : run7 16 ((List.drop 100 (List.drop 100 (al 2000 16 16)))) 25 17 = some (32, 32) := by decide +kernel
theorem r7_16 : run7 16 (al 2000 16 16) 0 0 = some (32, 32) := (run7_cut 100 r7_16_0 (run7_cut 100 r7_16_1 r7_16_2))
theorem r7_17_0 : run7 17 (List.take 100 (al 2000 17 17)) 0 0 = some (11, 0) := by decide +kernel
theorem r7_17_1 : run7 17 (List.take 100 (List.drop 100 (al 2000 17 17))) 11 0 = some (23, 7) := by decide +kernel
theorem r7_17_2 : run7 17 ((List.drop 100 (List.drop 100 (al 2000 17 17)))) 23 7 = some (38, 38) := by decide +kernel
theorem r7_17 : run7 17 (al 2000 17 17) 0 0 = some (38, 38) := (run7_cut 100 r7_17_0 (run7_cut 100 r7_17_1 r7_17_2))
end Go.Gh.Bunch
