/- The plain law of PacketKnown. -/
import Derived.Test.YtkjlgbnbpeijbaaPackK
namespace Go.Gh.Pack
set_option linter.unusedVariables false
set_option linter.unusedSimpArgs false
set_option maxRecDepth 100000

theorem j1 : f30 1100 [3, 5] = some (7, 0) := by decide +kernel
theorem j2 : f32 1100 [3, 5] = some (true, 0) := by decide +kernel
theorem j3 : f28 1100 [4, 6] = some ([], 15) := by decide +kernel
theorem j4 : f28 1100 [1, 9] = some ([], 0) := by decide +kernel
theorem j5 : f30 1100 [1, 9] = some (0, 12) := by decide +kernel
theorem j6 : f21 1100 [4, 6] 7 = some (3, -1, 0) := by decide +kernel
theorem j7 : f21 1100 [6, 10, 15] 25 = some (0, 0, 13) := by decide +kernel
theorem j8 : f19 1100 [6, 10, 15] 31 = some ([1, 1, 1], 0) := by decide +kernel
theorem j9 : f19 1100 [3, 5] 15 = some ([0, 3], 0) := by decide +kernel
theorem j10 : f51 1100 [2, 5] [3, 2] 10 = some ([0, 2], 0) := by decide +kernel
theorem j11 : f51 1100 [2, 5] [3, 2] 15 = some ([], 12) := by decide +kernel
theorem j12 : f40 1100 [2, 5] [1, 1] 8 = some (0, 12) := by
  rw [f40_eq (by omega) (by decide)]
  decide +kernel

theorem f9_of {F : Nat} (hF : 1100 ≤ F) (hF2 : F ≤ 5000) (w : f16 F = some true) (k1 : f30 F [3, 5] = some (7, 0)) (k2 : f32 F [3, 5] = some (true, 0)) (k3 : f28 F [4, 6] = some ([], 15)) (k4 : f28 F [1, 9] = some ([], 0)) (k5 : f30 F [1, 9] = some (0, 12))
    (k6 : f21 F [4, 6] 7 = some (3, -1, 0)) (k7 : f21 F [6, 10, 15] 25 = some (0, 0, 13)) (k8 : f19 F [6, 10, 15] 31 = some ([1, 1, 1], 0)) (k9 : f19 F [3, 5] 15 = some ([0, 3], 0)) (k10 : f51 F [2, 5] [3, 2] 10 = some ([0, 2], 0))
    (k11 : f51 F [2, 5] [3, 2] 15 = some ([], 12)) (k12 : f40 F [2, 5] [1, 1] 8 = some (0, 12)) : f9 F = some true := by
  have e : ∀ l : List Int, l.length < 1100 → f23 F l l = some true := fun l h => by rw [f23_eq (by omega) hF2, decide_eq_true rfl]
  have c1 : f26 F [] = some 4 := by rw [f26_eq (by omega)]; rfl
  have c2 : f26 F [5, 5] = some 7 := by rw [f26_eq (by omega)]; rfl
  have c3 : f26 F [31] = some 1 := by rw [f26_eq (by omega)]; rfl
  unfold f9
  simp only [f52, Option.bind_some, k1, k2, k3, k4, k5, k6, k7, k8, k9, k10, k11, k12, w, c1, c2, c3, beq_self_eq_true, if_true, List.length_nil, Int.natCast_zero, e [1, 1, 1] (by decide), e [0, 3] (by decide), e [0, 2] (by decide)]
theorem f9_plain : f9 1100 = some true := f9_of (by omega) (by omega) works j1 j2 j3 j4 j5 j6 j7 j8 j9 j10 j11 j12

end Go.Gh.Pack
