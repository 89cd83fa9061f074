/- The plain law of BunchCounts. -/
import Derived.Test.YtegnegeoodkpcaaBunchV
import Derived.Test.YtegnegeoodkpcaaBunchT
namespace Go.Gh.Bunch
set_option linter.unusedVariables false
set_option linter.unusedSimpArgs false

theorem f21_eq {n : Nat} (hn : n ≤ 22) : f21 2000 n = some (cnt (al 2000 n n), 0) := by
  have hs := al_small (k := 2000) (n := n) (m := n) (by omega) hn (by omega)
  have h := f21_p2_eq (F := 2000) (L := al 2000 n n) (by omega) (fun l hl => Nat.le_trans (al_each _ _ _ l hl) (by omega)) (by omega) 2000 0 0 (by omega) (by omega) (by omega) (by omega)
  simp only [f21, f55_eq, Option.bind_some]
  rw [if_pos (by simp; omega), f59_eq (by omega) 2000 n n (by omega) hn (by omega), Option.bind_some]
  rw [show ((0 : Nat) : Int) = 0 from rfl] at h
  rw [h, Option.bind_some, List.drop_zero, Int.zero_add]

theorem f23_eq {n : Nat} (hn : n ≤ 22) : f23 2000 n = some (sgn (al 2000 n n), 0) := by
  have hs := al_small (k := 2000) (n := n) (m := n) (by omega) hn (by omega)
  have h := f23_p2_eq (F := 2000) (L := al 2000 n n) (by omega) (fun l hl => Nat.le_trans (al_each _ _ _ l hl) (by omega)) (by omega) 2000 0 0 (by omega) (by omega) (by omega) (by omega)
  simp only [f23, f55_eq, Option.bind_some]
  rw [if_pos (by simp; omega), f59_eq (by omega) 2000 n n (by omega) hn (by omega), Option.bind_some]
  rw [show ((0 : Nat) : Int) = 0 from rfl] at h
  rw [h, Option.bind_some, List.drop_zero, Int.zero_add]

def dlook (n : Nat) : Bool := f20 2000 n == some (cnt (al 2000 n n), 0) && f22 2000 n == some (sgn (al 2000 n n), 0)
def dlooks : Bool := (List.range 19).all dlook
theorem dlook_low : dlooks = true := by decide +kernel
theorem dlook_19 : dlook 19 = true := by decide +kernel
theorem dlook_20 : dlook 20 = true := by decide +kernel
theorem dlook_21 : dlook 21 = true := by decide +kernel
theorem dlook_22 : dlook 22 = true := by decide +kernel
theorem dlook_all {n : Nat} (hn : n ≤ 22) : dlook n = true := by
  by_cases h : n < 19
  · have h2 := dlook_low
    simp only [dlooks, List.all_eq_true, List.mem_range] at h2
    exact h2 n h
  · match n, hn, h with
    | 19, _, _ => exact dlook_19
    | 20, _, _ => exact dlook_20
    | 21, _, _ => exact dlook_21
    | 22, _, _ => exact dlook_22
    | n + 23, h, _ => omega

theorem works2 : f19 2000 = some true := by decide +kernel

theorem f3_plain (x1 x2 : Int) (h1 : -9223372036854775808 ≤ x1 ∧ x1 ≤ 9223372036854775807) (h2 : -9223372036854775808 ≤ x2 ∧ x2 ≤ 9223372036854775807) : f3 2000 x1 x2 = some true := by
  unfold f3
  rw [f15_eq (by omega), f16_eq (by omega), f17_eq (by omega), f18_eq (by omega)]
  generalize cc x1 _ = A
  generalize cc x1 x2 = B
  obtain ⟨a, b⟩ := A
  obtain ⟨d, e⟩ := B
  simp only [Option.bind_some, bne_self_eq_false, Bool.false_eq_true, if_false]
  by_cases hx : x1 > 22
  · rw [if_pos (by simpa using hx)]
    by_cases hy : x1 ≤ 30
    · rw [if_pos (by simpa using hy), works2]; rfl
    · have e1 : ¬ (0 ≤ x1 ∧ x1 ≤ 30) := by omega
      rw [if_neg (by simpa using hy)]
      simp only [f20, f21, f22, f23, f57_eq, f55_eq, Option.bind_some, decide_eq_true_eq, if_neg e1, works2]
      rfl
  · rw [if_neg (by simpa using hx)]
    by_cases hz : 0 ≤ x1
    · have h := dlook_all (n := x1.toNat) (by omega)
      have e3 := f21_eq (n := x1.toNat) (by omega)
      have e4 := f23_eq (n := x1.toNat) (by omega)
      simp only [dlook, Bool.and_eq_true] at h
      have e5 := eq_of_beq h.1
      have e6 := eq_of_beq h.2
      rw [Int.toNat_of_nonneg hz] at e3 e4 e5 e6
      rw [e3, e4, e5, e6]
      simp only [Option.bind_some, beq_self_eq_true, if_true, works2]
    · have e1 : ¬ (0 ≤ x1 ∧ x1 ≤ 30) := by omega
      simp only [f20, f21, f22, f23, f57_eq, f55_eq, Option.bind_some, decide_eq_true_eq, if_neg e1, works2]
      rfl

end Go.Gh.Bunch
