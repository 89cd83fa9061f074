/- What is tried, looked at by the kernel. -/
import Derived.Test.YtegnegeoodkpcaaBunchP6b
namespace Go.Gh.Bunch
set_option linter.unusedVariables false
set_option linter.unusedSimpArgs false
set_option maxRecDepth 100000
def h6_22 : List (List Int × List Int) := [([9, 7, 5, 1], [5, 5, 5, 4, 3]), ([11, 7, 3, 1], [6, 5, 4, 4, 2, 1]), ([13, 5, 3, 1], [7, 4, 4, 4, 1, 1, 1]), ([13, 9], [7, 6, 2, 2, 2, 2, 1]), ([15, 7], [8, 5, 2, 2, 2, 1, 1, 1]), ([17, 5], [9, 4, 2, 2, 1, 1, 1, 1, 1]), ([19, 3], [10, 3, 2, 1, 1, 1, 1, 1, 1, 1]), ([21, 1], [11, 2, 1, 1, 1, 1, 1, 1, 1, 1, 1])]
theorem k6_22_0 : hkOf (List.take 200 (al 2000 22 30)) = some [] := by decide +kernel
theorem l6_22_0 : List.all (List.take 200 (al 2000 22 30)) (foldOk h6_22) = true := by decide +kernel
theorem k6_22_1 : hkOf (List.take 200 (List.drop 200 (al 2000 22 30))) = some [([9, 7, 5, 1], [5, 5, 5, 4, 3]), ([11, 7, 3, 1], [6, 5, 4, 4, 2, 1])] := by decide +kernel
theorem l6_22_1 : List.all (List.take 200 (List.drop 200 (al 2000 22 30))) (foldOk h6_22) = true := by decide +kernel
theorem k6_22_2 : hkOf (List.take 200 (List.drop 200 (List.drop 200 (al 2000 22 30)))) = some [([13, 5, 3, 1], [7, 4, 4, 4, 1, 1, 1]), ([13, 9], [7, 6, 2, 2, 2, 2, 1]), ([15, 7], [8, 5, 2, 2, 2, 1, 1, 1])] := by decide +kernel
theorem l6_22_2 : List.all (List.take 200 (List.drop 200 (List.drop 200 (al 2000 22 30)))) (foldOk h6_22) = true := by decide +kernel
theorem k6_22_3 : hkOf (List.take 200 (List.drop 200 (List.drop 200 (List.drop 200 (al 2000 22 30))))) = some [([17, 5], [9, 4, 2, 2, 1, 1, 1, 1, 1]), ([19, 3], [10, 3, 2, 1, 1, 1, 1, 1, 1, 1])] := by decide +kernel
theorem l6_22_3 : List.all (List.take 200 (List.drop 200 (List.drop 200 (List.drop 200 (al 2000 22 30))))) (foldOk h6_22) = true := by decide +kernel
theorem k6_22_4 : hkOf (List.take 200 (List.drop 200 (List.drop 200 (List.drop 200 (List.drop 200 (al 2000 22 30)))))) = some [([21, 1], [11, 2, 1, 1, 1, 1, 1, 1, 1, 1, 1])] := by decide +kernel
theorem l6_22_4 : List.all (List.take 200 (List.drop 200 (List.drop 200 (List.drop 200 (List.drop 200 (al 2000 22 30)))))) (foldOk h6_22) = true := by decide +kernel
theorem k6_22_5 : hkOf (List.drop 200 (List.drop 200 (List.drop 200 (List.drop 200 (List.drop 200 (al 2000 22 30)))))) = some [] := by decide +kernel
theorem l6_22_5 : List.all (List.drop 200 (List.drop 200 (List.drop 200 (List.drop 200 (List.drop 200 (al 2000 22 30)))))) (foldOk h6_22) = true := by decide +kernel
theorem k6_22 : hkOf (al 2000 22 30) = some h6_22 := (hkOf_cut 200 k6_22_0 (hkOf_cut 200 k6_22_1 (hkOf_cut 200 k6_22_2 (hkOf_cut 200 k6_22_3 (hkOf_cut 200 k6_22_4 k6_22_5)))))
theorem l6_22 : List.all (al 2000 22 30) (foldOk h6_22) = true := (all_cut 200 l6_22_0 (all_cut 200 l6_22_1 (all_cut 200 l6_22_2 (all_cut 200 l6_22_3 (all_cut 200 l6_22_4 l6_22_5)))))
end Go.Gh.Bunch
