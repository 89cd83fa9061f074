/- Packet: the examples that every law ends with. -/
import Derived.Test.YtkjlgbnbpeijbaaPackV
namespace Go.Gh.Pack
set_option linter.unusedVariables false
set_option linter.unusedSimpArgs false
set_option maxRecDepth 100000

theorem k1 : f28 1100 [3, 5] = some ([1, 2, 4, 7], 0) := by decide +kernel
theorem k2 : f30 1100 [6, 10, 15] = some (29, 0) := by decide +kernel
theorem k3 : f24 1100 [6, 10, 15] 0 = some ([0, 25, 20, 15, 10, 35], 0) := by decide +kernel
theorem k4 : f17 1100 [6, 10, 15] 31 = some (true, 0) := by decide +kernel
theorem k5 : f21 1100 [6, 10, 15] 29 = some (5, 35, 0) := by decide +kernel
theorem k6 : f19 1100 [1, 4, 6] 8 = some ([0, 2, 0], 0) := by decide +kernel
theorem k7 : f34 1100 [3, 5, 6, 8] = some ([0, 1], 0) := by decide +kernel
theorem k8 : f32 1100 [3, 4, 5] = some (false, 0) := by decide +kernel
theorem k9 : f51 1100 [2, 5] [3, 2] 11 = some ([3, 1], 0) := by decide +kernel
theorem k10 : f36 1100 [2, 5] [5, 2] 10 = some (2, 0) := by
  rw [f36_eq (by omega) (by decide)]
  decide +kernel
theorem k11 : f42 1100 [2, 5] [5, 2] 10 0 = some (0, 5, 0) := by
  rw [f42_eq (by omega) (by decide) (by decide)]
  decide +kernel
theorem k12' : tots [2, 5] [1, 1] = [0, 2, 5, 7] := by decide +kernel
theorem k12 : f38 1100 [2, 5] [1, 1] = some ([0, 2, 5, 7], 0) := by
  rw [f38_eq (by omega) (by decide), k12', show stk [2, 5] [1, 1] = 0 from by decide +kernel]
theorem k13 : f40 1100 [2, 5] [1, 1] 3 = some (5, 0) := by
  rw [f40_eq (by omega) (by decide)]
  decide +kernel
theorem k14 : f51 1100 [2, 5] [3, 2] 13 = some ([], 12) := by decide +kernel

theorem f16_of {F : Nat} (hF : 1100 ≤ F) (hF2 : F ≤ 5000) (k1 : f28 F [3, 5] = some ([1, 2, 4, 7], 0)) (k2 : f30 F [6, 10, 15] = some (29, 0)) (k3 : f24 F [6, 10, 15] 0 = some ([0, 25, 20, 15, 10, 35], 0)) (k4 : f17 F [6, 10, 15] 31 = some (true, 0))
    (k5 : f21 F [6, 10, 15] 29 = some (5, 35, 0)) (k6 : f19 F [1, 4, 6] 8 = some ([0, 2, 0], 0)) (k7 : f34 F [3, 5, 6, 8] = some ([0, 1], 0)) (k8 : f32 F [3, 4, 5] = some (false, 0)) (k9 : f51 F [2, 5] [3, 2] 11 = some ([3, 1], 0))
    (k10 : f36 F [2, 5] [5, 2] 10 = some (2, 0)) (k11 : f42 F [2, 5] [5, 2] 10 0 = some (0, 5, 0)) (k12 : f38 F [2, 5] [1, 1] = some ([0, 2, 5, 7], 0)) (k13 : f40 F [2, 5] [1, 1] 3 = some (5, 0)) (k14 : f51 F [2, 5] [3, 2] 13 = some ([], 12)) : f16 F = some true := by
  have e : ∀ l : List Int, l.length < 1100 → f23 F l l = some true := fun l h => by rw [f23_eq (by omega) hF2, decide_eq_true rfl]
  unfold f16
  simp only [f52, Option.bind_some, k1, k2, k3, k4, k5, k6, k7, k8, k9, k10, k11, k12, k13, k14, bne_self_eq_false, Bool.false_eq_true, if_false, beq_self_eq_true, if_true, e [1, 2, 4, 7] (by decide), e [0, 25, 20, 15, 10, 35] (by decide), e [0, 2, 0] (by decide), e [0, 1] (by decide), e [3, 1] (by decide), e [0, 2, 5, 7] (by decide)]
theorem works : f16 1100 = some true := f16_of (by omega) (by omega) k1 k2 k3 k4 k5 k6 k7 k8 k9 k10 k11 k12 k13 k14

end Go.Gh.Pack
