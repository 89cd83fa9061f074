/- SaleLowest: the plain law. -/
import Derived.Test.YtdbaljbhnpchjaaSaleB6
namespace Go.Gh.Sale
set_option linter.unusedVariables false
set_option linter.unusedSimpArgs false

theorem f6_plain (s : List (List Int)) : f6 10000 s = some true := by
 obtain ⟨c, hc⟩ := f15_some (F := 10000) (by omega) s
 unfold f6
 rw [hc, Option.bind_some]
 by_cases h1 : c = true
 ·rw [if_pos h1, works10]; rfl
 ·rw [if_neg h1]
  have e23 : ∀ l : List Int, l.length ≤ 50 → f23 10000 l l = some true := fun l hl => by rw [f23_eq (by omega) (by omega)]; simp
  have hlo : (if ckS s ≠ 0 then (([] : List Int), ckS s) else (lowP (s[0]?.getD []).length s, 0)).1.length ≤ 50 := by
   by_cases h : ckS s = 0
   ·rw [if_neg (by simpa using h)]
    have := (ckS_ok h).m5
    dsimp only
    rw [lowP_len]; omega
   ·rw [if_pos h]; simp
  have hhi : (if ckS s ≠ 0 then (([] : List Int), ckS s) else (highP (s[0]?.getD []).length s, 0)).1.length ≤ 50 := by
   by_cases h : ckS s = 0
   ·rw [if_neg (by simpa using h)]
    have := (ckS_ok h).m5
    dsimp only
    rw [highP_len]; omega
   ·rw [if_pos h]; simp
  simp only [f39_eq (F := 10000) (by omega) s, f40_eq (F := 10000) (by omega) s, f41_eq (F := 10000) (by omega) s, f42_eq (F := 10000) (by omega) s, Option.bind_some, e23 _ hlo, e23 _ hhi, if_true, beq_self_eq_true, works10]

end Go.Gh.Sale
