/- TopP5: the law TopFano's plain side: f5 looks at its two numbers only by their remainders; 49 cases. -/
import Derived.Test.YtcaphjiiaclndaaDoorTop5N0
namespace Go.Gh.Top
set_option linter.unusedVariables false
set_option linter.unusedSimpArgs false

theorem w64_in {n : Int} (h : -9223372036854775808 ≤ n ∧ n ≤ 9223372036854775807) : w64 n = n := by
  simp only [w64, IntKind.wrap, IntKind.signed, IntKind.bits]
  simp
  omega

theorem f5_p15_3_is (F : Nat) (x1 x2 : Int) (x3 : List Int) (x47 : Int) (x51 x77 : List Int) (x48 x69 : Int) (x70 : List Int) (x72 x73 x74 : Int) : ∀ (k : Nat) (a : Int) (b : List Int),
    f5_p15_3 F x1 x2 x3 x47 x51 x77 x48 x69 x70 x72 x73 x74 k a b = f5_p15_3 F 0 0 x3 x47 x51 x77 x48 x69 x70 x72 x73 x74 k a b := by
  intro k
  induction k with
  | zero => intros; rfl
  | succ k ih => intro a b; simp only [f5_p15_3, ih]

theorem f5_p9_1_is (F : Nat) (x1 x2 : Int) (x3 : List Int) (x47 : Int) (x51 : List Int) (x48 : Int) : ∀ (k : Nat) (a : Int) (b c : List Int),
    f5_p9_1 F x1 x2 x3 x47 x51 x48 k a b c = f5_p9_1 F 0 0 x3 x47 x51 x48 k a b c := by
  intro k
  induction k with
  | zero => intros; rfl
  | succ k ih => intro a b c; simp only [f5_p9_1, ih, f5_p15_3_is F x1 x2]

theorem f5_p19_1_is (F : Nat) (x1 x2 : Int) (x3 : List Int) (x47 x48 : Int) (x88 x87 : List Int) : ∀ (k : Nat) (a : Int),
    f5_p19_1 F x1 x2 x3 x47 x48 x88 x87 k a = f5_p19_1 F 0 0 x3 x47 x48 x88 x87 k a := by
  intro k
  induction k with
  | zero => intros; rfl
  | succ k ih => intro a; simp only [f5_p19_1, ih]

theorem f5_p2_is (F : Nat) (x1 x2 : Int) (x3 : List Int) : ∀ (k : Nat) (a b : Int) (c : List Int),
    f5_p2 F x1 x2 x3 k a b c = f5_p2 F 0 0 x3 k a b c := by
  intro k
  induction k with
  | zero => intros; rfl
  | succ k ih => intro a b c; simp only [f5_p2, ih, f5_p9_1_is F x1 x2, f5_p19_1_is F x1 x2]

/-- The two numbers count by their remainders. -/
theorem f5_is (F : Nat) {x1 x2 y1 y2 : Int} (h1 : Int.tmod (w64 x1) 7 = Int.tmod (w64 y1) 7) (h2 : Int.tmod (w64 x2) 7 = Int.tmod (w64 y2) 7) : f5 F x1 x2 = f5 F y1 y2 := by
  simp only [f5, h1, h2, f5_p2_is F x1 x2, f5_p2_is F y1 y2]

theorem f5_all : ∀ a b : Fin 7, f5 1000 (a.val : Int) (b.val : Int) = some true := by decide +kernel

theorem tmod_id {a : Int} (h : 0 ≤ a ∧ a < 7) : Int.tmod (w64 a) 7 = a := by
  rw [w64_in (by omega)]; exact Int.tmod_eq_of_lt h.1 h.2

theorem f5_plain (a b : Int) (ha : 0 ≤ a ∧ a ≤ 255) (hb : 0 ≤ b ∧ b ≤ 255) : f5 1000 a b = some true := by
  have key : ∀ c : Int, 0 ≤ c ∧ c ≤ 255 → ∃ i : Fin 7, Int.tmod (w64 c) 7 = Int.tmod (w64 (i.val : Int)) 7 := by
    intro c hc
    have h0 : 0 ≤ c.tmod 7 := Int.tmod_nonneg _ hc.1
    have h1 : c.tmod 7 < 7 := Int.tmod_lt_of_pos _ (by omega)
    refine ⟨⟨(c.tmod 7).toNat, by omega⟩, ?_⟩
    rw [show (((c.tmod 7).toNat : Nat) : Int) = c.tmod 7 by omega, tmod_id ⟨h0, h1⟩, w64_in (by omega)]
  obtain ⟨i, hi⟩ := key a ha
  obtain ⟨j, hj⟩ := key b hb
  rw [f5_is 1000 hi hj]
  exact f5_all i j
end Go.Gh.Top
