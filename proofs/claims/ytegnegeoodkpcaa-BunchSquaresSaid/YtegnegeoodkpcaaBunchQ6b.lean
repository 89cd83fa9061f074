/- What is tried, looked at by the kernel. -/
import Derived.Test.YtegnegeoodkpcaaBunchP6b
namespace Go.Gh.Bunch
set_option linter.unusedVariables false
set_option linter.unusedSimpArgs false
set_option maxRecDepth 100000
def h6_18 : List (List Int × List Int) := [([9, 5, 3, 1], [5, 4, 4, 4, 1]), ([11, 7], [6, 5, 2, 2, 2, 1]), ([13, 5], [7, 4, 2, 2, 1, 1, 1]), ([15, 3], [8, 3, 2, 1, 1, 1, 1, 1]), ([17, 1], [9, 2, 1, 1, 1, 1, 1, 1, 1])]
theorem k6_18_0 : hkOf (List.take 200 (al 2000 18 30)) = some [([9, 5, 3, 1], [5, 4, 4, 4, 1]), ([11, 7], [6, 5, 2, 2, 2, 1])] := by decide +kernel
theorem l6_18_0 : List.all (List.take 200 (al 2000 18 30)) (foldOk h6_18) = true := by decide +kernel
theorem k6_18_1 : hkOf (List.drop 200 (al 2000 18 30)) = some [([13, 5], [7, 4, 2, 2, 1, 1, 1]), ([15, 3], [8, 3, 2, 1, 1, 1, 1, 1]), ([17, 1], [9, 2, 1, 1, 1, 1, 1, 1, 1])] := by decide +kernel
theorem l6_18_1 : List.all (List.drop 200 (al 2000 18 30)) (foldOk h6_18) = true := by decide +kernel
theorem k6_18 : hkOf (al 2000 18 30) = some h6_18 := (hkOf_cut 200 k6_18_0 k6_18_1)
theorem l6_18 : List.all (al 2000 18 30) (foldOk h6_18) = true := (all_cut 200 l6_18_0 l6_18_1)
def h6_19 : List (List Int × List Int) := [([9, 7, 3], [5, 5, 4, 3, 2]), ([11, 5, 3], [6, 4, 4, 3, 1, 1]), ([11, 7, 1], [6, 5, 3, 2, 2, 1]), ([13, 5, 1], [7, 4, 3, 2, 1, 1, 1]), ([15, 3, 1], [8, 3, 3, 1, 1, 1, 1, 1]), ([19], [10, 1, 1, 1, 1, 1, 1, 1, 1, 1])]
theorem k6_19_0 : hkOf (List.take 200 (al 2000 19 30)) = some [([9, 7, 3], [5, 5, 4, 3, 2])] := by decide +kernel
theorem l6_19_0 : List.all (List.take 200 (al 2000 19 30)) (foldOk h6_19) = true := by decide +kernel
theorem k6_19_1 : hkOf (List.take 200 (List.drop 200 (al 2000 19 30))) = some [([11, 5, 3], [6, 4, 4, 3, 1, 1]), ([11, 7, 1], [6, 5, 3, 2, 2, 1]), ([13, 5, 1], [7, 4, 3, 2, 1, 1, 1]), ([15, 3, 1], [8, 3, 3, 1, 1, 1, 1, 1]), ([19], [10, 1, 1, 1, 1, 1, 1, 1, 1, 1])] := by decide +kernel
theorem l6_19_1 : List.all (List.take 200 (List.drop 200 (al 2000 19 30))) (foldOk h6_19) = true := by decide +kernel
theorem k6_19_2 : hkOf (List.drop 200 (List.drop 200 (al 2000 19 30))) = some [] := by decide +kernel
theorem l6_19_2 : List.all (List.drop 200 (List.drop 200 (al 2000 19 30))) (foldOk h6_19) = true := by decide +kernel
theorem k6_19 : hkOf (al 2000 19 30) = some h6_19 := (hkOf_cut 200 k6_19_0 (hkOf_cut 200 k6_19_1 k6_19_2))
theorem l6_19 : List.all (al 2000 19 30) (foldOk h6_19) = true := (all_cut 200 l6_19_0 (all_cut 200 l6_19_1 l6_19_2))
def h6_20 : List (List Int × List Int) := [([9, 7, 3, 1], [5, 5, 4, 4, 2]), ([11, 5, 3, 1], [6, 4, 4, 4, 1, 1]), ([11, 9], [6, 6, 2, 2, 2, 2]), ([13, 7], [7, 5, 2, 2, 2, 1, 1]), ([15, 5], [8, 4, 2, 2, 1, 1, 1, 1]), ([17, 3], [9, 3, 2, 1, 1, 1, 1, 1, 1]), ([19, 1], [10, 2, 1, 1, 1, 1, 1, 1, 1, 1])]
theorem k6_20_0 : hkOf (List.take 200 (al 2000 20 30)) = some [([9, 7, 3, 1], [5, 5, 4, 4, 2])] := by decide +kernel
theorem l6_20_0 : List.all (List.take 200 (al 2000 20 30)) (foldOk h6_20) = true := by decide +kernel
theorem k6_20_1 : hkOf (List.take 200 (List.drop 200 (al 2000 20 30))) = some [([11, 5, 3, 1], [6, 4, 4, 4, 1, 1]), ([11, 9], [6, 6, 2, 2, 2, 2]), ([13, 7], [7, 5, 2, 2, 2, 1, 1]), ([15, 5], [8, 4, 2, 2, 1, 1, 1, 1])] := by decide +kernel
theorem l6_20_1 : List.all (List.take 200 (List.drop 200 (al 2000 20 30))) (foldOk h6_20) = true := by decide +kernel
theorem k6_20_2 : hkOf (List.take 200 (List.drop 200 (List.drop 200 (al 2000 20 30)))) = some [([17, 3], [9, 3, 2, 1, 1, 1, 1, 1, 1]), ([19, 1], [10, 2, 1, 1, 1, 1, 1, 1, 1, 1])] := by decide +kernel
theorem l6_20_2 : List.all (List.take 200 (List.drop 200 (List.drop 200 (al 2000 20 30)))) (foldOk h6_20) = true := by decide +kernel
theorem k6_20_3 : hkOf (List.drop 200 (List.drop 200 (List.drop 200 (al 2000 20 30)))) = some [] := by decide +kernel
theorem l6_20_3 : List.all (List.drop 200 (List.drop 200 (List.drop 200 (al 2000 20 30)))) (foldOk h6_20) = true := by decide +kernel
theorem k6_20 : hkOf (al 2000 20 30) = some h6_20 := (hkOf_cut 200 k6_20_0 (hkOf_cut 200 k6_20_1 (hkOf_cut 200 k6_20_2 k6_20_3)))
theorem l6_20 : List.all (al 2000 20 30) (foldOk h6_20) = true := (all_cut 200 l6_20_0 (all_cut 200 l6_20_1 (all_cut 200 l6_20_2 l6_20_3)))
end Go.Gh.Bunch
