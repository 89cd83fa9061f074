/- TopP3: the law TopAlternates' plain side: f3 looks at its two numbers only by their remainders; 256 cases. -/
import Derived.Test.YtcaphjiiaclndaaDoorTop3N0
namespace Go.Gh.Top
set_option linter.unusedVariables false
set_option linter.unusedSimpArgs false

theorem w64_in {n : Int} (h : -9223372036854775808 ≤ n ∧ n ≤ 9223372036854775807) : w64 n = n := by
  simp only [w64, IntKind.wrap, IntKind.signed, IntKind.bits]
  simp
  omega

theorem f3_is (F : Nat) {x1 x2 y1 y2 : Int} (h1 : Int.tmod (w64 x1) 16 = Int.tmod (w64 y1) 16) (h2 : Int.tmod (w64 x2) 16 = Int.tmod (w64 y2) 16) : f3 F x1 x2 = f3 F y1 y2 := by
  simp only [f3, h1, h2]

theorem f3_all : ∀ a b : Fin 16, f3 1000 (a.val : Int) (b.val : Int) = some true := by decide +kernel

theorem tmod_id {a : Int} (h : 0 ≤ a ∧ a < 16) : Int.tmod (w64 a) 16 = a := by
  rw [w64_in (by omega)]; exact Int.tmod_eq_of_lt h.1 h.2

theorem f3_plain (a b : Int) (ha : 0 ≤ a ∧ a ≤ 255) (hb : 0 ≤ b ∧ b ≤ 255) : f3 1000 a b = some true := by
  have key : ∀ c : Int, 0 ≤ c ∧ c ≤ 255 → ∃ i : Fin 16, Int.tmod (w64 c) 16 = Int.tmod (w64 (i.val : Int)) 16 := by
    intro c hc
    have h0 : 0 ≤ c.tmod 16 := Int.tmod_nonneg _ hc.1
    have h1 : c.tmod 16 < 16 := Int.tmod_lt_of_pos _ (by omega)
    refine ⟨⟨(c.tmod 16).toNat, by omega⟩, ?_⟩
    rw [show (((c.tmod 16).toNat : Nat) : Int) = c.tmod 16 by omega, tmod_id ⟨h0, h1⟩, w64_in (by omega)]
  obtain ⟨i, hi⟩ := key a ha
  obtain ⟨j, hj⟩ := key b hb
  rw [f3_is 1000 hi hj]
  exact f3_all i j
end Go.Gh.Top
