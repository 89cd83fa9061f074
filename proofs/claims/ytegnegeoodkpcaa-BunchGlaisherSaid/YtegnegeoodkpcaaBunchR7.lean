/- The plain law of BunchGlaisher. -/
import Derived.Test.YtegnegeoodkpcaaBunchQ7a
import Derived.Test.YtegnegeoodkpcaaBunchQ7b
import Derived.Test.YtegnegeoodkpcaaBunchQ7c
namespace Go.Gh.Bunch
set_option linter.unusedVariables false
set_option linter.unusedSimpArgs false

def fin7 (n : Int) : Int × Int → Option Bool := fun (x36, x37) => Option.bind (f20 2000 n) fun (x38, x39) => some (x39 == 0 && x36 == x37 && x38 == x37)

theorem all7 : ∀ n : Nat, n ≤ 20 → ∃ A B, run7 n (al 2000 n n) 0 0 = some (A, B) ∧ fin7 n (A, B) = some true := by
  intro n hn
  match n, hn with
  | 0, _ => exact ⟨_, _, r7_0, by decide +kernel⟩
  | 1, _ => exact ⟨_, _, r7_1, by decide +kernel⟩
  | 2, _ => exact ⟨_, _, r7_2, by decide +kernel⟩
  | 3, _ => exact ⟨_, _, r7_3, by decide +kernel⟩
  | 4, _ => exact ⟨_, _, r7_4, by decide +kernel⟩
  | 5, _ => exact ⟨_, _, r7_5, by decide +kernel⟩
  | 6, _ => exact ⟨_, _, r7_6, by decide +kernel⟩
  | 7, _ => exact ⟨_, _, r7_7, by decide +kernel⟩
  | 8, _ => exact ⟨_, _, r7_8, by decide +kernel⟩
  | 9, _ => exact ⟨_, _, r7_9, by decide +kernel⟩
  | 10, _ => exact ⟨_, _, r7_10, by decide +kernel⟩
  | 11, _ => exact ⟨_, _, r7_11, by decide +kernel⟩
  | 12, _ => exact ⟨_, _, r7_12, by decide +kernel⟩
  | 13, _ => exact ⟨_, _, r7_13, by decide +kernel⟩
  | 14, _ => exact ⟨_, _, r7_14, by decide +kernel⟩
  | 15, _ => exact ⟨_, _, r7_15, by decide +kernel⟩
  | 16, _ => exact ⟨_, _, r7_16, by decide +kernel⟩
  | 17, _ => exact ⟨_, _, r7_17, by decide +kernel⟩
  | 18, _ => exact ⟨_, _, r7_18, by decide +kernel⟩
  | 19, _ => exact ⟨_, _, r7_19, by decide +kernel⟩
  | 20, _ => exact ⟨_, _, r7_20, by decide +kernel⟩
  | n + 21, h => omega

theorem works2 : f19 2000 = some true := by decide +kernel

theorem f7_small {n : Nat} (hn : n ≤ 20) : f7 2000 n = some true := by
  obtain ⟨A, B, h1, h2⟩ := all7 n hn
  have hs := al_small (k := 2000) (n := n) (m := n) (by omega) (by omega) (by omega)
  have e1 : Int.tmod (w64 (n : Int)) 21 = (n : Int) := by rw [w64_in (by omega), Int.tmod_eq_emod_of_nonneg (by omega)]; omega
  have e2 := f7_p1_eq (n : Int) (al 2000 n n) (by omega) 2000 0 0 0 A B (by omega) (by omega) (by rw [List.drop_zero]; exact h1)
  simp only [f7, e1, f48_eq (n := n) (by omega), Option.bind_some]
  have e2 : f7_p1_4 2000 (n : Int) (al 2000 n n) 2000 0 0 0 = some (.c1 A B) := e2
  rw [e2, Option.bind_some]
  unfold fin7 at h2
  simp only [] at h2
  obtain ⟨⟨x24, x25⟩, h4, h2⟩ := bind_some h2
  have h2 := Option.some.inj h2
  simp only [Bool.and_eq_true] at h2
  obtain ⟨⟨h5, h6⟩, h7⟩ := h2
  dsimp only
  rw [h4, Option.bind_some]
  simp only [h5, h6, h7, if_true, works2, Option.bind_some]

theorem f7_plain (x1 : Int) (h1 : 0 ≤ x1 ∧ x1 ≤ 255) : f7 2000 x1 = some true := by
  have e : Int.tmod (w64 x1) 21 = ((x1 % 21).toNat : Int) := by rw [w64_in (by omega), Int.tmod_eq_emod_of_nonneg (by omega), Int.toNat_of_nonneg (by omega)]
  have hn : (x1 % 21).toNat ≤ 20 := by omega
  rw [← f7_small hn]
  refine f7_mod ?_
  rw [e, w64_in (by omega), Int.tmod_eq_emod_of_nonneg (by omega)]
  omega

end Go.Gh.Bunch
