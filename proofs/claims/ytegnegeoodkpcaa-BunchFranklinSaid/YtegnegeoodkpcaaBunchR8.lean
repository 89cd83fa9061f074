/- The plain law of BunchFranklin. -/
import Derived.Test.YtegnegeoodkpcaaBunchQ8a
import Derived.Test.YtegnegeoodkpcaaBunchQ8b
import Derived.Test.YtegnegeoodkpcaaBunchQ8c
namespace Go.Gh.Bunch
set_option linter.unusedVariables false
set_option linter.unusedSimpArgs false

theorem all8 : ∀ n : Nat, n ≤ 22 → ∃ A B, run8 n (al 2000 n n) 0 0 = some (A, B) ∧ fin8 n (A, B) = some true := by
  intro n hn
  match n, hn with
  | 0, _ => exact ⟨_, _, r8_0, by decide +kernel⟩
  | 1, _ => exact ⟨_, _, r8_1, by decide +kernel⟩
  | 2, _ => exact ⟨_, _, r8_2, by decide +kernel⟩
  | 3, _ => exact ⟨_, _, r8_3, by decide +kernel⟩
  | 4, _ => exact ⟨_, _, r8_4, by decide +kernel⟩
  | 5, _ => exact ⟨_, _, r8_5, by decide +kernel⟩
  | 6, _ => exact ⟨_, _, r8_6, by decide +kernel⟩
  | 7, _ => exact ⟨_, _, r8_7, by decide +kernel⟩
  | 8, _ => exact ⟨_, _, r8_8, by decide +kernel⟩
  | 9, _ => exact ⟨_, _, r8_9, by decide +kernel⟩
  | 10, _ => exact ⟨_, _, r8_10, by decide +kernel⟩
  | 11, _ => exact ⟨_, _, r8_11, by decide +kernel⟩
  | 12, _ => exact ⟨_, _, r8_12, by decide +kernel⟩
  | 13, _ => exact ⟨_, _, r8_13, by decide +kernel⟩
  | 14, _ => exact ⟨_, _, r8_14, by decide +kernel⟩
  | 15, _ => exact ⟨_, _, r8_15, by decide +kernel⟩
  | 16, _ => exact ⟨_, _, r8_16, by decide +kernel⟩
  | 17, _ => exact ⟨_, _, r8_17, by decide +kernel⟩
  | 18, _ => exact ⟨_, _, r8_18, by decide +kernel⟩
  | 19, _ => exact ⟨_, _, r8_19, by decide +kernel⟩
  | 20, _ => exact ⟨_, _, r8_20, by decide +kernel⟩
  | 21, _ => exact ⟨_, _, r8_21, by decide +kernel⟩
  | 22, _ => exact ⟨_, _, r8_22, by decide +kernel⟩
  | n + 23, h => omega

theorem works2 : f19 2000 = some true := by decide +kernel

theorem f8_small {n : Nat} (hn : n ≤ 22) : f8 2000 n = some true := by
  obtain ⟨A, B, h1, h2⟩ := all8 n hn
  have hs := al_small (k := 2000) (n := n) (m := n) (by omega) hn (by omega)
  have e1 : Int.tmod (w64 (n : Int)) 23 = (n : Int) := by rw [w64_in (by omega), Int.tmod_eq_emod_of_nonneg (by omega)]; omega
  have e2 := f8_p1_eq (n : Int) (al 2000 n n) (by omega) 2000 0 0 0 A B (by omega) (by omega) (by rw [List.drop_zero]; exact h1)
  simp only [f8, e1, f48_eq hn, Option.bind_some]
  rw [show (0 : Int) = ((0 : Nat) : Int) from rfl] at e2 ⊢
  rw [e2, Option.bind_some]
  unfold fin8 at h2
  simp only [] at h2
  obtain ⟨x23, h3, h2⟩ := bind_some h2
  obtain ⟨⟨x24, x25⟩, h4, h2⟩ := bind_some h2
  have h2 := Option.some.inj h2
  simp only [Bool.and_eq_true] at h2
  obtain ⟨⟨⟨h5, h6⟩, h7⟩, h8⟩ := h2
  dsimp only
  rw [show ((0 : Nat) : Int) = 0 from rfl, h3, Option.bind_some, h4, Option.bind_some]
  simp only [h5, h6, h7, h8, if_true, works2, Option.bind_some]

theorem f8_plain (x1 : Int) (h1 : 0 ≤ x1 ∧ x1 ≤ 255) : f8 2000 x1 = some true := by
  have e : Int.tmod (w64 x1) 23 = ((x1 % 23).toNat : Int) := by rw [w64_in (by omega), Int.tmod_eq_emod_of_nonneg (by omega), Int.toNat_of_nonneg (by omega)]
  have hn : (x1 % 23).toNat ≤ 22 := by omega
  rw [← f8_small hn]
  refine f8_mod ?_
  rw [e, w64_in (by omega), Int.tmod_eq_emod_of_nonneg (by omega)]
  omega

end Go.Gh.Bunch
