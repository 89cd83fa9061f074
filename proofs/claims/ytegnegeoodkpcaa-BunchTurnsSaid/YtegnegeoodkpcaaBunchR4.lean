/- The plain law of BunchTurns. -/
import Derived.Test.YtegnegeoodkpcaaBunchQ4a
import Derived.Test.YtegnegeoodkpcaaBunchQ4b
import Derived.Test.YtegnegeoodkpcaaBunchQ4c
namespace Go.Gh.Bunch
set_option linter.unusedVariables false
set_option linter.unusedSimpArgs false
theorem allD : ∀ n ≤ 30, (enD n).all okD = true := by
  intro n hn
  match n, hn with
  | 0, _ => exact kD_0
  | 1, _ => exact kD_1
  | 2, _ => exact kD_2
  | 3, _ => exact kD_3
  | 4, _ => exact kD_4
  | 5, _ => exact kD_5
  | 6, _ => exact kD_6
  | 7, _ => exact kD_7
  | 8, _ => exact kD_8
  | 9, _ => exact kD_9
  | 10, _ => exact kD_10
  | 11, _ => exact kD_11
  | 12, _ => exact kD_12
  | 13, _ => exact kD_13
  | 14, _ => exact kD_14
  | 15, _ => exact kD_15
  | 16, _ => exact kD_16
  | 17, _ => exact kD_17
  | 18, _ => exact kD_18
  | 19, _ => exact kD_19
  | 20, _ => exact kD_20
  | 21, _ => exact kD_21
  | 22, _ => exact kD_22
  | 23, _ => exact kD_23
  | 24, _ => exact kD_24
  | 25, _ => exact kD_25
  | 26, _ => exact kD_26
  | 27, _ => exact kD_27
  | 28, _ => exact kD_28
  | 29, _ => exact kD_29
  | 30, _ => exact kD_30
  | n + 31, h => omega
theorem allO : ∀ n ≤ 30, (enO n).all okO = true := by
  intro n hn
  match n, hn with
  | 0, _ => exact kO_0
  | 1, _ => exact kO_1
  | 2, _ => exact kO_2
  | 3, _ => exact kO_3
  | 4, _ => exact kO_4
  | 5, _ => exact kO_5
  | 6, _ => exact kO_6
  | 7, _ => exact kO_7
  | 8, _ => exact kO_8
  | 9, _ => exact kO_9
  | 10, _ => exact kO_10
  | 11, _ => exact kO_11
  | 12, _ => exact kO_12
  | 13, _ => exact kO_13
  | 14, _ => exact kO_14
  | 15, _ => exact kO_15
  | 16, _ => exact kO_16
  | 17, _ => exact kO_17
  | 18, _ => exact kO_18
  | 19, _ => exact kO_19
  | 20, _ => exact kO_20
  | 21, _ => exact kO_21
  | 22, _ => exact kO_22
  | 23, _ => exact kO_23
  | 24, _ => exact kO_24
  | 25, _ => exact kO_25
  | 26, _ => exact kO_26
  | 27, _ => exact kO_27
  | 28, _ => exact kO_28
  | 29, _ => exact kO_29
  | 30, _ => exact kO_30
  | n + 31, h => omega
theorem f4_plain (l : List Int) : f4 2000 l = some true := f4_of allO allD l
end Go.Gh.Bunch
