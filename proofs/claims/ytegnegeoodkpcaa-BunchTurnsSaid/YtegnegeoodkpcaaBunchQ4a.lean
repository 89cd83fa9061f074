/- What is looked at, by the kernel. -/
import Derived.Test.YtegnegeoodkpcaaBunchP4c
namespace Go.Gh.Bunch
set_option linter.unusedVariables false
set_option linter.unusedSimpArgs false
set_option maxRecDepth 100000
theorem kD_0_0 : (enD 0).all okD = true := by decide +kernel
theorem kD_0 : (enD 0).all okD = true := kD_0_0
theorem kD_1_0 : (enD 1).all okD = true := by decide +kernel
theorem kD_1 : (enD 1).all okD = true := kD_1_0
theorem kD_2_0 : (enD 2).all okD = true := by decide +kernel
theorem kD_2 : (enD 2).all okD = true := kD_2_0
theorem kD_3_0 : (enD 3).all okD = true := by decide +kernel
theorem kD_3 : (enD 3).all okD = true := kD_3_0
theorem kD_4_0 : (enD 4).all okD = true := by decide +kernel
theorem kD_4 : (enD 4).all okD = true := kD_4_0
theorem kD_5_0 : (enD 5).all okD = true := by decide +kernel
theorem kD_5 : (enD 5).all okD = true := kD_5_0
theorem kD_6_0 : (enD 6).all okD = true := by decide +kernel
theorem kD_6 : (enD 6).all okD = true := kD_6_0
theorem kD_7_0 : (enD 7).all okD = true := by decide +kernel
theorem kD_7 : (enD 7).all okD = true := kD_7_0
theorem kD_8_0 : (enD 8).all okD = true := by decide +kernel
theorem kD_8 : (enD 8).all okD = true := kD_8_0
theorem kD_9_0 : (enD 9).all okD = true := by decide +kernel
theorem kD_9 : (enD 9).all okD = true := kD_9_0
theorem kD_10_0 : (enD 10).all okD = true := by decide +kernel
theorem kD_10 : (enD 10).all okD = true := kD_10_0
theorem kD_11_0 : (enD 11).all okD = true := by decide +kernel
theorem kD_11 : (enD 11).all okD = true := kD_11_0
theorem kD_12_0 : (enD 12).all okD = true := by decide +kernel
theorem kD_12 : (enD 12).all okD = true := kD_12_0
theorem kD_13_0 : (enD 13).all okD = true := by decide +kernel
theorem kD_13 : (enD 13).all okD = true := kD_13_0
theorem kD_14_0 : (enD 14).all okD = true := by decide +kernel
theorem kD_14 : (enD 14).all okD = true := kD_14_0
theorem kD_15_0 : (enD 15).all okD = true := by decide +kernel
theorem kD_15 : (enD 15).all okD = true := kD_15_0
theorem kD_16_0 : (enD 16).all okD = true := by decide +kernel
theorem kD_16 : (enD 16).all okD = true := kD_16_0
theorem kD_17_0 : (enD 17).all okD = true := by decide +kernel
theorem kD_17 : (enD 17).all okD = true := kD_17_0
theorem kD_18_0 : (enD 18).all okD = true := by decide +kernel
theorem kD_18 : (enD 18).all okD = true := kD_18_0
theorem kD_19_0 : (List.take 50 (enD 19)).all okD = true := by decide +kernel
theorem kD_19_1 : (List.drop 50 (enD 19)).all okD = true := by decide +kernel
theorem kD_19 : (enD 19).all okD = true := (all_cut 50 kD_19_0 kD_19_1)
theorem kD_20_0 : (List.take 50 (enD 20)).all okD = true := by decide +kernel
theorem kD_20_1 : (List.drop 50 (enD 20)).all okD = true := by decide +kernel
theorem kD_20 : (enD 20).all okD = true := (all_cut 50 kD_20_0 kD_20_1)
theorem kD_21_0 : (List.take 50 (enD 21)).all okD = true := by decide +kernel
theorem kD_21_1 : (List.drop 50 (enD 21)).all okD = true := by decide +kernel
theorem kD_21 : (enD 21).all okD = true := (all_cut 50 kD_21_0 kD_21_1)
theorem kD_22_0 : (List.take 50 (enD 22)).all okD = true := by decide +kernel
theorem kD_22_1 : (List.drop 50 (enD 22)).all okD = true := by decide +kernel
theorem kD_22 : (enD 22).all okD = true := (all_cut 50 kD_22_0 kD_22_1)
theorem kD_23_0 : (List.take 50 (enD 23)).all okD = true := by decide +kernel
theorem kD_23_1 : (List.take 50 (List.drop 50 (enD 23))).all okD = true := by decide +kernel
theorem kD_23_2 : (List.drop 50 (List.drop 50 (enD 23))).all okD = true := by decide +kernel
theorem kD_23 : (enD 23).all okD = true := (all_cut 50 kD_23_0 (all_cut 50 kD_23_1 kD_23_2))
theorem kD_24_0 : (List.take 50 (enD 24)).all okD = true := by decide +kernel
theorem kD_24_1 : (List.take 50 (List.drop 50 (enD 24))).all okD = true := by decide +kernel
theorem kD_24_2 : (List.drop 50 (List.drop 50 (enD 24))).all okD = true := by decide +kernel
theorem kD_24 : (enD 24).all okD = true := (all_cut 50 kD_24_0 (all_cut 50 kD_24_1 kD_24_2))
theorem kD_25_0 : (List.take 50 (enD 25)).all okD = true := by decide +kernel
theorem kD_25_1 : (List.take 50 (List.drop 50 (enD 25))).all okD = true := by decide +kernel
theorem kD_25_2 : (List.drop 50 (List.drop 50 (enD 25))).all okD = true := by decide +kernel
theorem kD_25 : (enD 25).all okD = true := (all_cut 50 kD_25_0 (all_cut 50 kD_25_1 kD_25_2))
theorem kD_26_0 : (List.take 50 (enD 26)).all okD = true := by decide +kernel
theorem kD_26_1 : (List.take 50 (List.drop 50 (enD 26))).all okD = true := by decide +kernel
theorem kD_26_2 : (List.take 50 (List.drop 50 (List.drop 50 (enD 26)))).all okD = true := by decide +kernel
theorem kD_26_3 : (List.drop 50 (List.drop 50 (List.drop 50 (enD 26)))).all okD = true := by decide +kernel
theorem kD_26 : (enD 26).all okD = true := (all_cut 50 kD_26_0 (all_cut 50 kD_26_1 (all_cut 50 kD_26_2 kD_26_3)))
end Go.Gh.Bunch
