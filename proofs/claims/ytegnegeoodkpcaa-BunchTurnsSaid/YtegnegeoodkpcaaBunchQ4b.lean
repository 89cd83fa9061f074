/- What is looked at, by the kernel. -/
import Derived.Test.YtegnegeoodkpcaaBunchP4c
namespace Go.Gh.Bunch
set_option linter.unusedVariables false
set_option linter.unusedSimpArgs false
set_option maxRecDepth 100000
theorem kD_27_0 : (List.take 50 (enD 27)).all okD = true := by decide +kernel
theorem kD_27_1 : (List.take 50 (List.drop 50 (enD 27))).all okD = true := by decide +kernel
theorem kD_27_2 : (List.take 50 (List.drop 50 (List.drop 50 (enD 27)))).all okD = true := by decide +kernel
theorem kD_27_3 : (List.drop 50 (List.drop 50 (List.drop 50 (enD 27)))).all okD = true := by decide +kernel
theorem kD_27 : (enD 27).all okD = true := (all_cut 50 kD_27_0 (all_cut 50 kD_27_1 (all_cut 50 kD_27_2 kD_27_3)))
theorem kD_28_0 : (List.take 50 (enD 28)).all okD = true := by decide +kernel
theorem kD_28_1 : (List.take 50 (List.drop 50 (enD 28))).all okD = true := by decide +kernel
theorem kD_28_2 : (List.take 50 (List.drop 50 (List.drop 50 (enD 28)))).all okD = true := by decide +kernel
theorem kD_28_3 : (List.take 50 (List.drop 50 (List.drop 50 (List.drop 50 (enD 28))))).all okD = true := by decide +kernel
theorem kD_28_4 : (List.drop 50 (List.drop 50 (List.drop 50 (List.drop 50 (enD 28))))).all okD = true := by decide +kernel
theorem kD_28 : (enD 28).all okD = true := (all_cut 50 kD_28_0 (all_cut 50 kD_28_1 (all_cut 50 kD_28_2 (all_cut 50 kD_28_3 kD_28_4))))
theorem kD_29_0 : (List.take 50 (enD 29)).all okD = true := by decide +kernel
theorem kD_29_1 : (List.take 50 (List.drop 50 (enD 29))).all okD = true := by decide +kernel
theorem kD_29_2 : (List.take 50 (List.drop 50 (List.drop 50 (enD 29)))).all okD = true := by decide +kernel
theorem kD_29_3 : (List.take 50 (List.drop 50 (List.drop 50 (List.drop 50 (enD 29))))).all okD = true := by decide +kernel
theorem kD_29_4 : (List.take 50 (List.drop 50 (List.drop 50 (List.drop 50 (List.drop 50 (enD 29)))))).all okD = true := by decide +kernel
theorem kD_29_5 : (List.drop 50 (List.drop 50 (List.drop 50 (List.drop 50 (List.drop 50 (enD 29)))))).all okD = true := by decide +kernel
theorem kD_29 : (enD 29).all okD = true := (all_cut 50 kD_29_0 (all_cut 50 kD_29_1 (all_cut 50 kD_29_2 (all_cut 50 kD_29_3 (all_cut 50 kD_29_4 kD_29_5)))))
theorem kD_30_0 : (List.take 50 (enD 30)).all okD = true := by decide +kernel
theorem kD_30_1 : (List.take 50 (List.drop 50 (enD 30))).all okD = true := by decide +kernel
theorem kD_30_2 : (List.take 50 (List.drop 50 (List.drop 50 (enD 30)))).all okD = true := by decide +kernel
theorem kD_30_3 : (List.take 50 (List.drop 50 (List.drop 50 (List.drop 50 (enD 30))))).all okD = true := by decide +kernel
theorem kD_30_4 : (List.take 50 (List.drop 50 (List.drop 50 (List.drop 50 (List.drop 50 (enD 30)))))).all okD = true := by decide +kernel
theorem kD_30_5 : (List.drop 50 (List.drop 50 (List.drop 50 (List.drop 50 (List.drop 50 (enD 30)))))).all okD = true := by decide +kernel
theorem kD_30 : (enD 30).all okD = true := (all_cut 50 kD_30_0 (all_cut 50 kD_30_1 (all_cut 50 kD_30_2 (all_cut 50 kD_30_3 (all_cut 50 kD_30_4 kD_30_5)))))
end Go.Gh.Bunch
