/- What is looked at, by the kernel. -/
import Derived.Test.YtegnegeoodkpcaaBunchP4c
namespace Go.Gh.Bunch
set_option linter.unusedVariables false
set_option linter.unusedSimpArgs false
set_option maxRecDepth 100000
theorem kO_0_0 : (enO 0).all okO = true := by decide +kernel
theorem kO_0 : (enO 0).all okO = true := kO_0_0
theorem kO_1_0 : (enO 1).all okO = true := by decide +kernel
theorem kO_1 : (enO 1).all okO = true := kO_1_0
theorem kO_2_0 : (enO 2).all okO = true := by decide +kernel
theorem kO_2 : (enO 2).all okO = true := kO_2_0
theorem kO_3_0 : (enO 3).all okO = true := by decide +kernel
theorem kO_3 : (enO 3).all okO = true := kO_3_0
theorem kO_4_0 : (enO 4).all okO = true := by decide +kernel
theorem kO_4 : (enO 4).all okO = true := kO_4_0
theorem kO_5_0 : (enO 5).all okO = true := by decide +kernel
theorem kO_5 : (enO 5).all okO = true := kO_5_0
theorem kO_6_0 : (enO 6).all okO = true := by decide +kernel
theorem kO_6 : (enO 6).all okO = true := kO_6_0
theorem kO_7_0 : (enO 7).all okO = true := by decide +kernel
theorem kO_7 : (enO 7).all okO = true := kO_7_0
theorem kO_8_0 : (enO 8).all okO = true := by decide +kernel
theorem kO_8 : (enO 8).all okO = true := kO_8_0
theorem kO_9_0 : (enO 9).all okO = true := by decide +kernel
theorem kO_9 : (enO 9).all okO = true := kO_9_0
theorem kO_10_0 : (enO 10).all okO = true := by decide +kernel
theorem kO_10 : (enO 10).all okO = true := kO_10_0
theorem kO_11_0 : (enO 11).all okO = true := by decide +kernel
theorem kO_11 : (enO 11).all okO = true := kO_11_0
theorem kO_12_0 : (enO 12).all okO = true := by decide +kernel
theorem kO_12 : (enO 12).all okO = true := kO_12_0
theorem kO_13_0 : (enO 13).all okO = true := by decide +kernel
theorem kO_13 : (enO 13).all okO = true := kO_13_0
theorem kO_14_0 : (enO 14).all okO = true := by decide +kernel
theorem kO_14 : (enO 14).all okO = true := kO_14_0
theorem kO_15_0 : (enO 15).all okO = true := by decide +kernel
theorem kO_15 : (enO 15).all okO = true := kO_15_0
theorem kO_16_0 : (enO 16).all okO = true := by decide +kernel
theorem kO_16 : (enO 16).all okO = true := kO_16_0
theorem kO_17_0 : (enO 17).all okO = true := by decide +kernel
theorem kO_17 : (enO 17).all okO = true := kO_17_0
theorem kO_18_0 : (enO 18).all okO = true := by decide +kernel
theorem kO_18 : (enO 18).all okO = true := kO_18_0
theorem kO_19_0 : (enO 19).all okO = true := by decide +kernel
theorem kO_19 : (enO 19).all okO = true := kO_19_0
theorem kO_20_0 : (List.take 60 (enO 20)).all okO = true := by decide +kernel
theorem kO_20_1 : (List.drop 60 (enO 20)).all okO = true := by decide +kernel
theorem kO_20 : (enO 20).all okO = true := (all_cut 60 kO_20_0 kO_20_1)
theorem kO_21_0 : (List.take 60 (enO 21)).all okO = true := by decide +kernel
theorem kO_21_1 : (List.drop 60 (enO 21)).all okO = true := by decide +kernel
theorem kO_21 : (enO 21).all okO = true := (all_cut 60 kO_21_0 kO_21_1)
theorem kO_22_0 : (List.take 60 (enO 22)).all okO = true := by decide +kernel
theorem kO_22_1 : (List.drop 60 (enO 22)).all okO = true := by decide +kernel
theorem kO_22 : (enO 22).all okO = true := (all_cut 60 kO_22_0 kO_22_1)
theorem kO_23_0 : (List.take 60 (enO 23)).all okO = true := by decide +kernel
theorem kO_23_1 : (List.drop 60 (enO 23)).all okO = true := by decide +kernel
theorem kO_23 : (enO 23).all okO = true := (all_cut 60 kO_23_0 kO_23_1)
theorem kO_24_0 : (List.take 60 (enO 24)).all okO = true := by decide +kernel
theorem kO_24_1 : (List.take 60 (List.drop 60 (enO 24))).all okO = true := by decide +kernel
theorem kO_24_2 : (List.drop 60 (List.drop 60 (enO 24))).all okO = true := by decide +kernel
theorem kO_24 : (enO 24).all okO = true := (all_cut 60 kO_24_0 (all_cut 60 kO_24_1 kO_24_2))
theorem kO_25_0 : (List.take 60 (enO 25)).all okO = true := by decide +kernel
theorem kO_25_1 : (List.take 60 (List.drop 60 (enO 25))).all okO = true := by decide +kernel
theorem kO_25_2 : (List.drop 60 (List.drop 60 (enO 25))).all okO = true := by decide +kernel
theorem kO_25 : (enO 25).all okO = true := (all_cut 60 kO_25_0 (all_cut 60 kO_25_1 kO_25_2))
theorem kO_26_0 : (List.take 60 (enO 26)).all okO = true := by decide +kernel
theorem kO_26_1 : (List.take 60 (List.drop 60 (enO 26))).all okO = true := by decide +kernel
theorem kO_26_2 : (List.drop 60 (List.drop 60 (enO 26))).all okO = true := by decide +kernel
theorem kO_26 : (enO 26).all okO = true := (all_cut 60 kO_26_0 (all_cut 60 kO_26_1 kO_26_2))
theorem kO_27_0 : (List.take 60 (enO 27)).all okO = true := by decide +kernel
theorem kO_27_1 : (List.take 60 (List.drop 60 (enO 27))).all okO = true := by decide +kernel
theorem kO_27_2 : (List.take 60 (List.drop 60 (List.drop 60 (enO 27)))).all okO = true := by decide +kernel
theorem kO_27_3 : (List.drop 60 (List.drop 60 (List.drop 60 (enO 27)))).all okO = true := by decide +kernel
theorem kO_27 : (enO 27).all okO = true := (all_cut 60 kO_27_0 (all_cut 60 kO_27_1 (all_cut 60 kO_27_2 kO_27_3)))
theorem kO_28_0 : (List.take 60 (enO 28)).all okO = true := by decide +kernel
theorem kO_28_1 : (List.take 60 (List.drop 60 (enO 28))).all okO = true := by decide +kernel
theorem kO_28_2 : (List.take 60 (List.drop 60 (List.drop 60 (enO 28)))).all okO = true := by decide +kernel
theorem kO_28_3 : (List.drop 60 (List.drop 60 (List.drop 60 (enO 28)))).all okO = true := by decide +kernel
theorem kO_28 : (enO 28).all okO = true := (all_cut 60 kO_28_0 (all_cut 60 kO_28_1 (all_cut 60 kO_28_2 kO_28_3)))
theorem kO_29_0 : (List.take 60 (enO 29)).all okO = true := by decide +kernel
theorem kO_29_1 : (List.take 60 (List.drop 60 (enO 29))).all okO = true := by decide +kernel
theorem kO_29_2 : (List.take 60 (List.drop 60 (List.drop 60 (enO 29)))).all okO = true := by decide +kernel
theorem kO_29_3 : (List.take 60 (List.drop 60 (List.drop 60 (List.drop 60 (enO 29))))).all okO = true := by decide +kernel
theorem kO_29_4 : (List.drop 60 (List.drop 60 (List.drop 60 (List.drop 60 (enO 29))))).all okO = true := by decide +kernel
theorem kO_29 : (enO 29).all okO = true := (all_cut 60 kO_29_0 (all_cut 60 kO_29_1 (all_cut 60 kO_29_2 (all_cut 60 kO_29_3 kO_29_4))))
theorem kO_30_0 : (List.take 60 (enO 30)).all okO = true := by decide +kernel
theorem kO_30_1 : (List.take 60 (List.drop 60 (enO 30))).all okO = true := by decide +kernel
theorem kO_30_2 : (List.take 60 (List.drop 60 (List.drop 60 (enO 30)))).all okO = true := by decide +kernel
theorem kO_30_3 : (List.take 60 (List.drop 60 (List.drop 60 (List.drop 60 (enO 30))))).all okO = true := by decide +kernel
theorem kO_30_4 : (List.drop 60 (List.drop 60 (List.drop 60 (List.drop 60 (enO 30))))).all okO = true := by decide +kernel
theorem kO_30 : (enO 30).all okO = true := (all_cut 60 kO_30_0 (all_cut 60 kO_30_1 (all_cut 60 kO_30_2 (all_cut 60 kO_30_3 kO_30_4))))
end Go.Gh.Bunch
