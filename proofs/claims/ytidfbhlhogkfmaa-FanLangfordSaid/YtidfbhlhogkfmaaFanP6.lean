/- The plain law of FanLangford: what is computed depends on the remainder alone, and the twelve cases are run through. -/
import Derived.Test.YtidfbhlhogkfmaaFan6N0
namespace Go.Gh.Fan
set_option linter.unusedVariables false
set_option linter.unusedSimpArgs false

theorem w64_in {n : Int} (h : -9223372036854775808 ≤ n ∧ n ≤ 9223372036854775807) : w64 n = n := by
  simp only [w64, IntKind.wrap, IntKind.signed, IntKind.bits]
  simp
  omega

theorem f6_turn {x : Int} (h0 : 0 ≤ x) (h1 : x ≤ 255) : w64 (1 + Int.tmod (w64 x) 6) = w64 (1 + Int.tmod (w64 (x % 6)) 6) := by
  rw [w64_in (n := x) (by omega), w64_in (n := x % 6) (by omega)]
  rw [Int.tmod_eq_emod_of_nonneg h0, Int.tmod_eq_emod_of_nonneg (by omega : 0 ≤ x % 6), Int.emod_emod]

theorem f6_loop (F : Nat) (b : Bool) (x y : Int) (h : w64 (1 + Int.tmod (w64 x) 6) = w64 (1 + Int.tmod (w64 y) 6)) : ∀ k i j, f6_p1 F b x k i j = f6_p1 F b y k i j
  | 0, _, _ => rfl
  | k + 1, i, j => by
    simp only [f6_p1, h, f6_loop F b x y h k]

theorem f6_same (F : Nat) (b : Bool) (x y : Int) (h : w64 (1 + Int.tmod (w64 x) 6) = w64 (1 + Int.tmod (w64 y) 6)) : f6 F x b = f6 F y b := by
  unfold f6
  simp only [h, f6_loop F b x y h]

theorem f6_six : ∀ b : Bool, f6 100 0 b = some true ∧ f6 100 1 b = some true ∧ f6 100 2 b = some true ∧ f6 100 3 b = some true ∧ f6 100 4 b = some true ∧ f6 100 5 b = some true := by decide +kernel

theorem f6_plain (x : Int) (b : Bool) (h0 : 0 ≤ x) (h1 : x ≤ 255) : f6 100 x b = some true := by
  rw [f6_same 100 b x (x % 6) (f6_turn h0 h1)]
  obtain ⟨k0, k1, k2, k3, k4, k5⟩ := f6_six b
  have : x % 6 = 0 ∨ x % 6 = 1 ∨ x % 6 = 2 ∨ x % 6 = 3 ∨ x % 6 = 4 ∨ x % 6 = 5 := by omega
  rcases this with h | h | h | h | h | h <;> rw [h] <;> assumption

end Go.Gh.Fan
