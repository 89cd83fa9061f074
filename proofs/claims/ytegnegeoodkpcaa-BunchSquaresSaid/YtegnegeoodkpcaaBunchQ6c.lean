/- What is tried, looked at by the kernel. -/
import Derived.Test.YtegnegeoodkpcaaBunchP6b
namespace Go.Gh.Bunch
set_option linter.unusedVariables false
set_option linter.unusedSimpArgs false
set_option maxRecDepth 100000
def h6_21 : List (List Int × List Int) := [([9, 7, 5], [5, 5, 5, 3, 3]), ([11, 7, 3], [6, 5, 4, 3, 2, 1]), ([11, 9, 1], [6, 6, 3, 2, 2, 2]), ([13, 5, 3], [7, 4, 4, 3, 1, 1, 1]), ([13, 7, 1], [7, 5, 3, 2, 2, 1, 1]), ([15, 5, 1], [8, 4, 3, 2, 1, 1, 1, 1]), ([17, 3, 1], [9, 3, 3, 1, 1, 1, 1, 1, 1]), ([21], [11, 1, 1, 1, 1, 1, 1, 1, 1, 1, 1])]
theorem k6_21_0 : hkOf (List.take 200 (al 2000 21 30)) = some [] := by decide +kernel
theorem l6_21_0 : List.all (List.take 200 (al 2000 21 30)) (foldOk h6_21) = true := by decide +kernel
theorem k6_21_1 : hkOf (List.take 200 (List.drop 200 (al 2000 21 30))) = some [([9, 7, 5], [5, 5, 5, 3, 3]), ([11, 7, 3], [6, 5, 4, 3, 2, 1]), ([11, 9, 1], [6, 6, 3, 2, 2, 2]), ([13, 5, 3], [7, 4, 4, 3, 1, 1, 1]), ([13, 7, 1], [7, 5, 3, 2, 2, 1, 1])] := by decide +kernel
theorem l6_21_1 : List.all (List.take 200 (List.drop 200 (al 2000 21 30))) (foldOk h6_21) = true := by decide +kernel
theorem k6_21_2 : hkOf (List.take 200 (List.drop 200 (List.drop 200 (al 2000 21 30)))) = some [([15, 5, 1], [8, 4, 3, 2, 1, 1, 1, 1]), ([17, 3, 1], [9, 3, 3, 1, 1, 1, 1, 1, 1])] := by decide +kernel
theorem l6_21_2 : List.all (List.take 200 (List.drop 200 (List.drop 200 (al 2000 21 30)))) (foldOk h6_21) = true := by decide +kernel
theorem k6_21_3 : hkOf (List.drop 200 (List.drop 200 (List.drop 200 (al 2000 21 30)))) = some [([21], [11, 1, 1, 1, 1, 1, 1, 1, 1, 1, 1])] := by decide +kernel
theorem l6_21_3 : List.all (List.drop 200 (List.drop 200 (List.drop 200 (al 2000 21 30)))) (foldOk h6_21) = true := by decide +kernel
theorem k6_21 : hkOf (al 2000 21 30) = some h6_21 := (hkOf_cut 200 k6_21_0 (hkOf_cut 200 k6_21_1 (hkOf_cut 200 k6_21_2 k6_21_3)))
theorem l6_21 : List.all (al 2000 21 30) (foldOk h6_21) = true := (all_cut 200 l6_21_0 (all_cut 200 l6_21_1 (all_cut 200 l6_21_2 l6_21_3)))
end Go.Gh.Bunch
