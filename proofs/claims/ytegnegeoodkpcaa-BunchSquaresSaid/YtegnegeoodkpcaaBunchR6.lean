/- The plain law of BunchSquares. -/
import Derived.Test.YtegnegeoodkpcaaBunchQ6a
import Derived.Test.YtegnegeoodkpcaaBunchQ6b
import Derived.Test.YtegnegeoodkpcaaBunchQ6c
import Derived.Test.YtegnegeoodkpcaaBunchQ6d
namespace Go.Gh.Bunch
set_option linter.unusedVariables false
set_option linter.unusedSimpArgs false

theorem look6 : ∀ n : Nat, n ≤ 22 → ∃ H, hkOf (al 2000 n 30) = some H ∧ (al 2000 n 30).all (foldOk H) = true := by
  intro n hn
  match n, hn with
  | 0, _ => exact ⟨_, k6_0, l6_0⟩
  | 1, _ => exact ⟨_, k6_1, l6_1⟩
  | 2, _ => exact ⟨_, k6_2, l6_2⟩
  | 3, _ => exact ⟨_, k6_3, l6_3⟩
  | 4, _ => exact ⟨_, k6_4, l6_4⟩
  | 5, _ => exact ⟨_, k6_5, l6_5⟩
  | 6, _ => exact ⟨_, k6_6, l6_6⟩
  | 7, _ => exact ⟨_, k6_7, l6_7⟩
  | 8, _ => exact ⟨_, k6_8, l6_8⟩
  | 9, _ => exact ⟨_, k6_9, l6_9⟩
  | 10, _ => exact ⟨_, k6_10, l6_10⟩
  | 11, _ => exact ⟨_, k6_11, l6_11⟩
  | 12, _ => exact ⟨_, k6_12, l6_12⟩
  | 13, _ => exact ⟨_, k6_13, l6_13⟩
  | 14, _ => exact ⟨_, k6_14, l6_14⟩
  | 15, _ => exact ⟨_, k6_15, l6_15⟩
  | 16, _ => exact ⟨_, k6_16, l6_16⟩
  | 17, _ => exact ⟨_, k6_17, l6_17⟩
  | 18, _ => exact ⟨_, k6_18, l6_18⟩
  | 19, _ => exact ⟨_, k6_19, l6_19⟩
  | 20, _ => exact ⟨_, k6_20, l6_20⟩
  | 21, _ => exact ⟨_, k6_21, l6_21⟩
  | 22, _ => exact ⟨_, k6_22, l6_22⟩
  | n + 23, h => omega

theorem works6 : f19 2000 = some true := by decide +kernel

theorem f6_plain (l : List Int) (x : Int) (r b : List Int) (_ : -9223372036854775808 ≤ x ∧ x ≤ 9223372036854775807) : f6 2000 l x r b = some true := f6_of look6 works6 l x r b

end Go.Gh.Bunch
