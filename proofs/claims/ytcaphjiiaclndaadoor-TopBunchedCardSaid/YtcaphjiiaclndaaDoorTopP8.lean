/- TopP8: the law TopBunched's plain side: f8 looks at its two numbers only by remainders; 66 cases. -/
import Derived.Test.YtcaphjiiaclndaaDoorTop8N0
namespace Go.Gh.Top
set_option linter.unusedVariables false
set_option linter.unusedSimpArgs false

theorem w64_in {n : Int} (h : -9223372036854775808 ≤ n ∧ n ≤ 9223372036854775807) : w64 n = n := by
 simp only [w64, IntKind.wrap, IntKind.signed, IntKind.bits]
 simp
 omega

section
variable (F : Nat) {x y : Int} (h : Int.tmod (w64 x) 8 = Int.tmod (w64 y) 8)

theorem f8_p8_1_is (x y : Int) (x5 x7 : List Int) (x17 x18 : Int) : ∀ (k : Nat) (a : Int) (b : List Int), f8_p8_1 F x x5 x7 x17 x18 k a b = f8_p8_1 F y x5 x7 x17 x18 k a b := by
 intro k
 induction k with
 | zero => intros; rfl
 | succ k ih => intro a b; simp only [f8_p8_1, ih]

include h in
theorem f8_p3_is (x5 x7 : List Int) : ∀ (k : Nat) (a : Int) (b : List Int), f8_p3 F x x5 x7 k a b = f8_p3 F y x5 x7 k a b := by
 intro k
 induction k with
 | zero => intros; rfl
 | succ k ih => intro a b; simp only [f8_p3, ih, h, f8_p8_1_is F x y]

theorem f8_p17_2_is (x y : Int) (x5 x22 : List Int) (x59 : Int) : ∀ (k : Nat) (a b : Int) (c : List (Int × (Int × Unit))), f8_p17_2 F x x5 x22 x59 k a b c = f8_p17_2 F y x5 x22 x59 k a b c := by
 intro k
 induction k with
 | zero => intros; rfl
 | succ k ih => intro a b c; simp only [f8_p17_2, ih, f8_p20_7]

include h in
theorem f8_p13_is (x5 x22 : List Int) : ∀ (k : Nat) (a b : Int) (c : List (Int × (Int × Unit))), f8_p13 F x x5 x22 k a b c = f8_p13 F y x5 x22 k a b c := by
 intro k
 induction k with
 | zero => intros; rfl
 | succ k ih => intro a b c; simp only [f8_p13, ih, h, f8_p17_2_is F x y]

include h in
theorem f8_x (z : Int) : f8 F x z = f8 F y z := by
 simp only [f8, h, f8_p3_is F h, f8_p13_is F h]
end

theorem f8_y (F : Nat) (x : Int) {y z : Int} (h : ∀ p q, f39 F (w64 (1 + Int.tmod (w64 x) 8)) = some (p, q) → Int.tmod (w64 y) p = Int.tmod (w64 z) p) : f8 F x y = f8 F x z := by
 unfold f8
 cases hq : f39 F (w64 (1 + Int.tmod (w64 x) 8)) with
 | none => rfl
 | some r =>
  obtain ⟨p, q⟩ := r
  simp only [Option.bind_some, h p q hq]

def pt : Fin 8 → Nat := fun a => [1, 2, 3, 5, 7, 11, 15, 22].getD a.val 0

theorem f39_all : ∀ a : Fin 8, f39 1000 (w64 (1 + Int.tmod (w64 (a.val : Int)) 8)) = some ((pt a : Int), 0) := by decide +kernel

theorem pt_pos : ∀ a : Fin 8, 0 < pt a ∧ pt a ≤ 22 := by decide

theorem f8_all : ∀ a : Fin 8, ∀ b : Fin (pt a), f8 1000 (a.val : Int) (b.val : Int) = some true := by decide +kernel

theorem tmod_id {n a : Int} (h : 0 ≤ a ∧ a < n) (hn : n ≤ 100) : Int.tmod (w64 a) n = a := by
 rw [w64_in (by omega)]; exact Int.tmod_eq_of_lt h.1 h.2

theorem tmod_fin {n : Nat} (hn : 0 < n ∧ n ≤ 100) {c : Int} (hc : 0 ≤ c ∧ c ≤ 255) : ∃ i : Fin n, Int.tmod (w64 c) n = Int.tmod (w64 (i.val : Int)) n := by
 have h0 : 0 ≤ c.tmod n := Int.tmod_nonneg _ hc.1
 have h1 : c.tmod n < n := Int.tmod_lt_of_pos _ (by omega)
 refine ⟨⟨(c.tmod n).toNat, by omega⟩, ?_⟩
 rw [show (((c.tmod n).toNat : Nat) : Int) = c.tmod n by omega, tmod_id ⟨h0, h1⟩ (by omega), w64_in (by omega)]

theorem f8_plain (a b : Int) (ha : 0 ≤ a ∧ a ≤ 255) (hb : 0 ≤ b ∧ b ≤ 255) : f8 1000 a b = some true := by
 obtain ⟨i, hi⟩ := tmod_fin (n := 8) (by omega) ha
 obtain ⟨j, hj⟩ := tmod_fin (n := pt i) (by have := pt_pos i; omega) hb
 rw [f8_x 1000 (y := (i.val : Int)) hi, f8_y 1000 (i.val : Int) (z := (j.val : Int)) ?_]
 ·exact f8_all i j
 ·intro p q hq
  rw [f39_all i] at hq
  cases hq
  exact hj
end Go.Gh.Top
