/- SalePays: the plain law. -/
import Derived.Test.YtdbaljbhnpchjaaSaleB4
namespace Go.Gh.Sale
set_option linter.unusedVariables false
set_option linter.unusedSimpArgs false

theorem f15_p2_some {F : Nat} {s : List (List Int)} (hs : s.length ≤ 30) : ∀ (k i : Nat), i ≤ s.length → s.length < k + i → ∃ r, f15_p2 F s k i = some r := by
  intro k
  induction k with
  | zero => intro i _ h; omega
  | succ k ih =>
    intro i h1 h2
    unfold f15_p2
    by_cases hi : i < s.length
    · rw [if_pos (by simp; omega), at_get hi, Option.bind_some, w64_succ (by omega)]
      split
      · exact ⟨_, rfl⟩
      · exact ih (i + 1) (by omega) (by omega)
    · rw [if_neg (by simp; omega)]
      exact ⟨_, rfl⟩
theorem f15_some {F : Nat} (hF : 100 ≤ F) (s : List (List Int)) : ∃ b, f15 F s = some b := by
  unfold f15
  by_cases h : (s.length : Int) > 30
  · rw [if_pos (by simpa using h)]; exact ⟨_, rfl⟩
  · rw [if_neg (by simpa using h)]
    obtain ⟨r, e⟩ := f15_p2_some (F := F) (s := s) (by omega) F 0 (by omega) (by omega)
    rw [show f15_p2 F s F 0 = _ from e, Option.bind_some]
    cases r <;> exact ⟨_, rfl⟩

theorem f4_plain (s : List (List Int)) (b : Int) (l : List Int) (_ : -9223372036854775808 ≤ b ∧ b ≤ 9223372036854775807) : f4 10000 s b l = some true := by
  obtain ⟨c, hc⟩ := f15_some (F := 10000) (by omega) s
  unfold f4
  rw [hc, Option.bind_some]
  by_cases h1 : c = true
  · rw [if_pos h1, works10]; rfl
  · rw [if_neg h1]
    by_cases h2 : (l.length : Int) > 30
    · rw [if_pos (by simpa using h2), works10]; rfl
    · rw [if_neg (by simpa using h2)]
      have e23 : ∀ l : List Int, l.length ≤ 50 → f23 10000 l l = some true := fun l hl => by rw [f23_eq (by omega) (by omega)]; simp
      have hlen : ∀ f : Nat → List (List Int) → List Int, (∀ m, (f m s).length = s.length) → (if ckS s ≠ 0 then (([] : List Int), ckS s) else (f (s[0]?.getD []).length s, 0)).1.length ≤ 50 := fun f hf => by
        by_cases h : ckS s = 0
        · rw [if_neg (by simpa using h)]
          have hn := (ckS_ok h).n
          dsimp only
          rw [hf]
          omega
        · rw [if_pos h]; simp
      have g1 := hlen paysL (fun m => by simp [paysL])
      have g2 := hlen gainsL (fun m => by simp [gainsL])
      simp only [f26_eq (F := 10000) (by omega) s, f27_eq (F := 10000) (by omega) s, f28_eq (F := 10000) (by omega) s, f29_eq (F := 10000) (by omega) s, f30_eq (F := 10000) (by omega) s b l, f31_eq (F := 10000) (by omega) s b l, Option.bind_some, e23 _ g1, e23 _ g2, beq_self_eq_true, if_true, works10]

end Go.Gh.Sale
