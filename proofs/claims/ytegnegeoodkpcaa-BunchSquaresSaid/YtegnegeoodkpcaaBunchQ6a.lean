/- What is tried, looked at by the kernel. -/
import Derived.Test.YtegnegeoodkpcaaBunchP6b
namespace Go.Gh.Bunch
set_option linter.unusedVariables false
set_option linter.unusedSimpArgs false
set_option maxRecDepth 100000
def h6_0 : List (List Int × List Int) := [([], [])]
theorem k6_0_0 : hkOf (al 2000 0 30) = some [([], [])] := by decide +kernel
theorem l6_0_0 : List.all (al 2000 0 30) (foldOk h6_0) = true := by decide +kernel
theorem k6_0 : hkOf (al 2000 0 30) = some h6_0 := k6_0_0
theorem l6_0 : List.all (al 2000 0 30) (foldOk h6_0) = true := l6_0_0
def h6_1 : List (List Int × List Int) := [([1], [1])]
theorem k6_1_0 : hkOf (al 2000 1 30) = some [([1], [1])] := by decide +kernel
theorem l6_1_0 : List.all (al 2000 1 30) (foldOk h6_1) = true := by decide +kernel
theorem k6_1 : hkOf (al 2000 1 30) = some h6_1 := k6_1_0
theorem l6_1 : List.all (al 2000 1 30) (foldOk h6_1) = true := l6_1_0
def h6_2 : List (List Int × List Int) := []
theorem k6_2_0 : hkOf (al 2000 2 30) = some [] := by decide +kernel
theorem l6_2_0 : List.all (al 2000 2 30) (foldOk h6_2) = true := by decide +kernel
theorem k6_2 : hkOf (al 2000 2 30) = some h6_2 := k6_2_0
theorem l6_2 : List.all (al 2000 2 30) (foldOk h6_2) = true := l6_2_0
def h6_3 : List (List Int × List Int) := [([3], [2, 1])]
theorem k6_3_0 : hkOf (al 2000 3 30) = some [([3], [2, 1])] := by decide +kernel
theorem l6_3_0 : List.all (al 2000 3 30) (foldOk h6_3) = true := by decide +kernel
theorem k6_3 : hkOf (al 2000 3 30) = some h6_3 := k6_3_0
theorem l6_3 : List.all (al 2000 3 30) (foldOk h6_3) = true := l6_3_0
def h6_4 : List (List Int × List Int) := [([3, 1], [2, 2])]
theorem k6_4_0 : hkOf (al 2000 4 30) = some [([3, 1], [2, 2])] := by decide +kernel
theorem l6_4_0 : List.all (al 2000 4 30) (foldOk h6_4) = true := by decide +kernel
theorem k6_4 : hkOf (al 2000 4 30) = some h6_4 := k6_4_0
theorem l6_4 : List.all (al 2000 4 30) (foldOk h6_4) = true := l6_4_0
def h6_5 : List (List Int × List Int) := [([5], [3, 1, 1])]
theorem k6_5_0 : hkOf (al 2000 5 30) = some [([5], [3, 1, 1])] := by decide +kernel
theorem l6_5_0 : List.all (al 2000 5 30) (foldOk h6_5) = true := by decide +kernel
theorem k6_5 : hkOf (al 2000 5 30) = some h6_5 := k6_5_0
theorem l6_5 : List.all (al 2000 5 30) (foldOk h6_5) = true := l6_5_0
def h6_6 : List (List Int × List Int) := [([5, 1], [3, 2, 1])]
theorem k6_6_0 : hkOf (al 2000 6 30) = some [([5, 1], [3, 2, 1])] := by decide +kernel
theorem l6_6_0 : List.all (al 2000 6 30) (foldOk h6_6) = true := by decide +kernel
theorem k6_6 : hkOf (al 2000 6 30) = some h6_6 := k6_6_0
theorem l6_6 : List.all (al 2000 6 30) (foldOk h6_6) = true := l6_6_0
def h6_7 : List (List Int × List Int) := [([7], [4, 1, 1, 1])]
theorem k6_7_0 : hkOf (al 2000 7 30) = some [([7], [4, 1, 1, 1])] := by decide +kernel
theorem l6_7_0 : List.all (al 2000 7 30) (foldOk h6_7) = true := by decide +kernel
theorem k6_7 : hkOf (al 2000 7 30) = some h6_7 := k6_7_0
theorem l6_7 : List.all (al 2000 7 30) (foldOk h6_7) = true := l6_7_0
def h6_8 : List (List Int × List Int) := [([5, 3], [3, 3, 2]), ([7, 1], [4, 2, 1, 1])]
theorem k6_8_0 : hkOf (al 2000 8 30) = some [([5, 3], [3, 3, 2]), ([7, 1], [4, 2, 1, 1])] := by decide +kernel
theorem l6_8_0 : List.all (al 2000 8 30) (foldOk h6_8) = true := by decide +kernel
theorem k6_8 : hkOf (al 2000 8 30) = some h6_8 := k6_8_0
theorem l6_8 : List.all (al 2000 8 30) (foldOk h6_8) = true := l6_8_0
def h6_9 : List (List Int × List Int) := [([5, 3, 1], [3, 3, 3]), ([9], [5, 1, 1, 1, 1])]
theorem k6_9_0 : hkOf (al 2000 9 30) = some [([5, 3, 1], [3, 3, 3]), ([9], [5, 1, 1, 1, 1])] := by decide +kernel
theorem l6_9_0 : List.all (al 2000 9 30) (foldOk h6_9) = true := by decide +kernel
theorem k6_9 : hkOf (al 2000 9 30) = some h6_9 := k6_9_0
theorem l6_9 : List.all (al 2000 9 30) (foldOk h6_9) = true := l6_9_0
def h6_10 : List (List Int × List Int) := [([7, 3], [4, 3, 2, 1]), ([9, 1], [5, 2, 1, 1, 1])]
theorem k6_10_0 : hkOf (al 2000 10 30) = some [([7, 3], [4, 3, 2, 1]), ([9, 1], [5, 2, 1, 1, 1])] := by decide +kernel
theorem l6_10_0 : List.all (al 2000 10 30) (foldOk h6_10) = true := by decide +kernel
theorem k6_10 : hkOf (al 2000 10 30) = some h6_10 := k6_10_0
theorem l6_10 : List.all (al 2000 10 30) (foldOk h6_10) = true := l6_10_0
def h6_11 : List (List Int × List Int) := [([7, 3, 1], [4, 3, 3, 1]), ([11], [6, 1, 1, 1, 1, 1])]
theorem k6_11_0 : hkOf (al 2000 11 30) = some [([7, 3, 1], [4, 3, 3, 1]), ([11], [6, 1, 1, 1, 1, 1])] := by decide +kernel
theorem l6_11_0 : List.all (al 2000 11 30) (foldOk h6_11) = true := by decide +kernel
theorem k6_11 : hkOf (al 2000 11 30) = some h6_11 := k6_11_0
theorem l6_11 : List.all (al 2000 11 30) (foldOk h6_11) = true := l6_11_0
def h6_12 : List (List Int × List Int) := [([7, 5], [4, 4, 2, 2]), ([9, 3], [5, 3, 2, 1, 1]), ([11, 1], [6, 2, 1, 1, 1, 1])]
theorem k6_12_0 : hkOf (al 2000 12 30) = some [([7, 5], [4, 4, 2, 2]), ([9, 3], [5, 3, 2, 1, 1]), ([11, 1], [6, 2, 1, 1, 1, 1])] := by decide +kernel
theorem l6_12_0 : List.all (al 2000 12 30) (foldOk h6_12) = true := by decide +kernel
theorem k6_12 : hkOf (al 2000 12 30) = some h6_12 := k6_12_0
theorem l6_12 : List.all (al 2000 12 30) (foldOk h6_12) = true := l6_12_0
def h6_13 : List (List Int × List Int) := [([7, 5, 1], [4, 4, 3, 2]), ([9, 3, 1], [5, 3, 3, 1, 1]), ([13], [7, 1, 1, 1, 1, 1, 1])]
theorem k6_13_0 : hkOf (al 2000 13 30) = some [([7, 5, 1], [4, 4, 3, 2]), ([9, 3, 1], [5, 3, 3, 1, 1]), ([13], [7, 1, 1, 1, 1, 1, 1])] := by decide +kernel
theorem l6_13_0 : List.all (al 2000 13 30) (foldOk h6_13) = true := by decide +kernel
theorem k6_13 : hkOf (al 2000 13 30) = some h6_13 := k6_13_0
theorem l6_13 : List.all (al 2000 13 30) (foldOk h6_13) = true := l6_13_0
def h6_14 : List (List Int × List Int) := [([9, 5], [5, 4, 2, 2, 1]), ([11, 3], [6, 3, 2, 1, 1, 1]), ([13, 1], [7, 2, 1, 1, 1, 1, 1])]
theorem k6_14_0 : hkOf (al 2000 14 30) = some [([9, 5], [5, 4, 2, 2, 1]), ([11, 3], [6, 3, 2, 1, 1, 1]), ([13, 1], [7, 2, 1, 1, 1, 1, 1])] := by decide +kernel
theorem l6_14_0 : List.all (al 2000 14 30) (foldOk h6_14) = true := by decide +kernel
theorem k6_14 : hkOf (al 2000 14 30) = some h6_14 := k6_14_0
theorem l6_14 : List.all (al 2000 14 30) (foldOk h6_14) = true := l6_14_0
def h6_15 : List (List Int × List Int) := [([7, 5, 3], [4, 4, 4, 3]), ([9, 5, 1], [5, 4, 3, 2, 1]), ([11, 3, 1], [6, 3, 3, 1, 1, 1]), ([15], [8, 1, 1, 1, 1, 1, 1, 1])]
theorem k6_15_0 : hkOf (al 2000 15 30) = some [([7, 5, 3], [4, 4, 4, 3]), ([9, 5, 1], [5, 4, 3, 2, 1]), ([11, 3, 1], [6, 3, 3, 1, 1, 1]), ([15], [8, 1, 1, 1, 1, 1, 1, 1])] := by decide +kernel
theorem l6_15_0 : List.all (al 2000 15 30) (foldOk h6_15) = true := by decide +kernel
theorem k6_15 : hkOf (al 2000 15 30) = some h6_15 := k6_15_0
theorem l6_15 : List.all (al 2000 15 30) (foldOk h6_15) = true := l6_15_0
def h6_16 : List (List Int × List Int) := [([7, 5, 3, 1], [4, 4, 4, 4]), ([9, 7], [5, 5, 2, 2, 2]), ([11, 5], [6, 4, 2, 2, 1, 1]), ([13, 3], [7, 3, 2, 1, 1, 1, 1]), ([15, 1], [8, 2, 1, 1, 1, 1, 1, 1])]
theorem k6_16_0 : hkOf (List.take 200 (al 2000 16 30)) = some [([7, 5, 3, 1], [4, 4, 4, 4]), ([9, 7], [5, 5, 2, 2, 2]), ([11, 5], [6, 4, 2, 2, 1, 1]), ([13, 3], [7, 3, 2, 1, 1, 1, 1]), ([15, 1], [8, 2, 1, 1, 1, 1, 1, 1])] := by decide +kernel
theorem l6_16_0 : List.all (List.take 200 (al 2000 16 30)) (foldOk h6_16) = true := by decide +kernel
theorem k6_16_1 : hkOf (List.drop 200 (al 2000 16 30)) = some [] := by decide +kernel
theorem l6_16_1 : List.all (List.drop 200 (al 2000 16 30)) (foldOk h6_16) = true := by decide +kernel
theorem k6_16 : hkOf (al 2000 16 30) = some h6_16 := (hkOf_cut 200 k6_16_0 k6_16_1)
theorem l6_16 : List.all (al 2000 16 30) (foldOk h6_16) = true := (all_cut 200 l6_16_0 l6_16_1)
def h6_17 : List (List Int × List Int) := [([9, 5, 3], [5, 4, 4, 3, 1]), ([9, 7, 1], [5, 5, 3, 2, 2]), ([11, 5, 1], [6, 4, 3, 2, 1, 1]), ([13, 3, 1], [7, 3, 3, 1, 1, 1, 1]), ([17], [9, 1, 1, 1, 1, 1, 1, 1, 1])]
theorem k6_17_0 : hkOf (List.take 200 (al 2000 17 30)) = some [([9, 5, 3], [5, 4, 4, 3, 1]), ([9, 7, 1], [5, 5, 3, 2, 2]), ([11, 5, 1], [6, 4, 3, 2, 1, 1]), ([13, 3, 1], [7, 3, 3, 1, 1, 1, 1])] := by decide +kernel
theorem l6_17_0 : List.all (List.take 200 (al 2000 17 30)) (foldOk h6_17) = true := by decide +kernel
theorem k6_17_1 : hkOf (List.drop 200 (al 2000 17 30)) = some [([17], [9, 1, 1, 1, 1, 1, 1, 1, 1])] := by decide +kernel
theorem l6_17_1 : List.all (List.drop 200 (al 2000 17 30)) (foldOk h6_17) = true := by decide +kernel
theorem k6_17 : hkOf (al 2000 17 30) = some h6_17 := (hkOf_cut 200 k6_17_0 k6_17_1)
theorem l6_17 : List.all (al 2000 17 30) (foldOk h6_17) = true := (all_cut 200 l6_17_0 l6_17_1)
end Go.Gh.Bunch
