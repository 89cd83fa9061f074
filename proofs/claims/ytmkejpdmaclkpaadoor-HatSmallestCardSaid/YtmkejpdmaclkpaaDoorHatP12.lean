/- The plain law of HatSmallest: what is computed depends on the remainder alone, and the four cases are run through. -/
import Derived.Test.YtmkejpdmaclkpaaDoorHatW
namespace Go.Gh.Hat
set_option linter.unusedVariables false
set_option linter.unusedSimpArgs false

section
variable (F : Nat) (x y : Int)
theorem s_p5 (a : Option (List Int)) (b : Int) : ∀ k i j, f12_p5 F x a b k i j = f12_p5 F y a b k i j
  | 0, _, _ => rfl
  | k + 1, i, j => by simp only [f12_p5, s_p5 a b k]
theorem s_p17 (a : Option (List Int)) (b c d e : Int) : f12_p17 F x a b c d e = f12_p17 F y a b c d e := by simp only [f12_p17]
theorem s_p17_1 (a : Option (List Int)) (b c d e : Int) : f12_p17_1 F x a b c d e = f12_p17_1 F y a b c d e := by simp only [f12_p17_1]
theorem s_p19 (a : Option (List Int)) (b : List Int) (c d : Int) : f12_p19 F x a b c d = f12_p19 F y a b c d := by simp only [f12_p19]
variable (h : Int.tmod (w64 x) 4 = Int.tmod (w64 y) 4)
include h
theorem s_p14 (a : Option (List Int)) (b c : Int) : ∀ k i j, f12_p14 F x a b c k i j = f12_p14 F y a b c k i j
  | 0, _, _ => rfl
  | k + 1, i, j => by simp only [f12_p14, h, s_p17 F x y, s_p14 a b c k]
theorem s_p14_1 (a : Option (List Int)) (b c : Int) : ∀ k i j, f12_p14_1 F x a b c k i j = f12_p14_1 F y a b c k i j
  | 0, _, _ => rfl
  | k + 1, i, j => by simp only [f12_p14_1, h, s_p17_1 F x y, s_p14_1 a b c k]
theorem s_p10 (a : Option (List Int)) (b : Int) : ∀ k i j, f12_p10 F x a b k i j = f12_p10 F y a b k i j
  | 0, _, _ => rfl
  | k + 1, i, j => by simp only [f12_p10, h, s_p14 F x y h, s_p10 a b k]
theorem s_p10_1 (a : Option (List Int)) (b : Int) : ∀ k i j, f12_p10_1 F x a b k i j = f12_p10_1 F y a b k i j
  | 0, _, _ => rfl
  | k + 1, i, j => by simp only [f12_p10_1, h, s_p14_1 F x y h, s_p10_1 a b k]
theorem s_p1 : ∀ k i j, f12_p1_7 F x k i j = f12_p1_7 F y k i j
  | 0, _, _ => rfl
  | k + 1, i, j => by simp only [f12_p1_7, h, s_p5 F x y, s_p10 F x y h, s_p10_1 F x y h, s_p19 F x y, s_p1 k]
theorem s_12 : f12 F x = f12 F y := by simp only [f12, h, s_p1 F x y h]
end

theorem turn4 {x : Int} (h0 : 0 ≤ x) (h1 : x ≤ 255) : Int.tmod (w64 x) 4 = Int.tmod (w64 (x % 4)) 4 := by
  rw [w64_in (n := x) (by omega), w64_in (n := x % 4) (by omega)]
  rw [Int.tmod_eq_emod_of_nonneg h0, Int.tmod_eq_emod_of_nonneg (by omega : 0 ≤ x % 4), Int.emod_emod]

end Go.Gh.Hat
