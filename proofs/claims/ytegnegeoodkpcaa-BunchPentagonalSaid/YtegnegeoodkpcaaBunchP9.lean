/- The plain law of BunchPentagonal: the counts are looked up in the table. -/
import Derived.Test.YtegnegeoodkpcaaBunchS
namespace Go.Gh.Bunch
set_option linter.unusedVariables false
set_option linter.unusedSimpArgs false

def c15 (x : Int) : Int × Int := cc x (if 0 > x then 0 else x)
def g9_p7 (n m : Int) (x3 : Int) (x6 : Int) : Nat → Int → Int → Option f9_p7_R
  | 0, _, _ => none
  | k + 1, x7, x8 =>
    if (decide (x8 < 2)) = true then
      req ((0 : Int) ≤ x8 ∧ (x8 : Int) < ((2 : Nat) : Int)) <|
      if (decide ((([(w64 (Int.tdiv (w64 (x6 * (w64 ((w64 (3 * x6)) - 1)))) 2)), (w64 (Int.tdiv (w64 (x6 * (w64 ((w64 (3 * x6)) + 1)))) 2))])[(Int.toNat x8)]?.getD 0) > n)) = true then
        g9_p7 n m x3 x6 k x7 (w64 (x8 + 1))
      else
        Option.bind (some (c15 (w64 (n - (([(w64 (Int.tdiv (w64 (x6 * (w64 ((w64 (3 * x6)) - 1)))) 2)), (w64 (Int.tdiv (w64 (x6 * (w64 ((w64 (3 * x6)) + 1)))) 2))])[(Int.toNat x8)]?.getD 0))))) fun (x9, x10) =>
        if (x10 != 0) = true then
          some .c0
        else
          g9_p7 n m x3 x6 k (w64 (x7 + (w64 (x9 * (w64 ((w64 (2 * (Int.tmod x6 2))) - 1)))))) (w64 (x8 + 1))
    else
      some (.c1 x7)
def g9_p3 (n m : Int) (x3 : Int) : Nat → Int → Int → Option f9_p3_R
  | 0, _, _ => none
  | k + 1, x5, x6 =>
    if (decide (x6 ≤ 30)) = true then
      Option.bind (g9_p7 n m x3 x6 100 x5 0) fun
      | .c0 =>
        some .c0
      | .c1 x11 =>
        g9_p3 n m x3 k x11 (w64 (x6 + 1))
    else
      some (.c1 x5)
def g9_p1 (n m : Int) (x3 : Int) : Option f9_p1_R :=
  if (decide (n > 0)) = true then
    Option.bind (g9_p3 n m x3 100 0 1) fun
    | .c0 =>
      some .c0
    | .c1 x12 =>
      if (x3 != x12) = true then
        some .c0
      else
        some .c1
  else
    some .c1
def g9 (n m : Int) : Option Bool :=
  Option.bind (some (c15 n)) fun (x3, x4) =>
  if (x4 != 0) = true then
    none
  else
    Option.bind (g9_p1 n m x3) fun
    | .c0 =>
      none
    | .c1 =>
      Option.bind (some (cc n m)) fun (x13, x14) =>
      Option.bind (some (cc n 30)) fun (x15, x16) =>
      if (x14 != 0) = true then
        none
      else
      if (x16 != 0) = true then
        none
      else
      if (x15 != x3) = true then
        none
      else
      if (decide (x13 < 0)) = true then
        none
      else
      if (decide (x13 > x3)) = true then
        none
      else
      if (m == 0) = true then
        if ((x13 == 0) == (decide (n > 0))) = true then
          if (decide (n > 0)) = true then
            Option.bind (some true) fun x17 =>
            some x17
          else
          if (x13 == 1) = true then
            Option.bind (some true) fun x18 =>
            some x18
          else
            none
        else
          none
      else
        Option.bind (some (cc n (w64 (m - 1)))) fun (x19, x20) =>
        if (decide (n < m)) = true then
          if (x20 == 0) = true then
            if (x13 == x19) = true then
              Option.bind (some true) fun x21 =>
              some x21
            else
              none
          else
            none
        else
          Option.bind (some (cc (w64 (n - m)) m)) fun (x22, x23) =>
          if (x20 == 0) = true then
            if (x23 == 0) = true then
              if (x13 == (w64 (x19 + x22))) = true then
                Option.bind (some true) fun x24 =>
                some x24
              else
                none
            else
              none
          else
            none

theorem f9_p7_eq (x1 x2 x3 x6 : Int) : ∀ (k : Nat) (x7 x8 : Int), f9_p7 100 x1 x2 x3 x6 k x7 x8 = g9_p7 (Int.tmod (w64 x1) 31) (Int.tmod (w64 x2) 31) x3 x6 k x7 x8 := by
  intro k
  induction k with
  | zero => intro _ _; rfl
  | succ k ih => intro x7 x8; simp only [f9_p7, g9_p7, f15_eq (Nat.le_refl 100), c15, ih]
theorem f9_p3_eq (x1 x2 x3 : Int) : ∀ (k : Nat) (x5 x6 : Int), f9_p3 100 x1 x2 x3 k x5 x6 = g9_p3 (Int.tmod (w64 x1) 31) (Int.tmod (w64 x2) 31) x3 k x5 x6 := by
  intro k
  induction k with
  | zero => intro _ _; rfl
  | succ k ih => intro x5 x6; simp only [f9_p3, g9_p3, f9_p7_eq, ih]; rfl
theorem f9_p1_eq (x1 x2 x3 : Int) : f9_p1 100 x1 x2 x3 = g9_p1 (Int.tmod (w64 x1) 31) (Int.tmod (w64 x2) 31) x3 := by
  simp only [f9_p1, g9_p1, f9_p3_eq]; rfl
theorem f9_eq (x1 x2 : Int) : f9 100 x1 x2 = g9 (Int.tmod (w64 x1) 31) (Int.tmod (w64 x2) 31) := by
  simp only [f9, g9, f9_p1_eq, f17_eq (Nat.le_refl 100), f15_eq (Nat.le_refl 100), c15, works]; rfl

def look9 : Bool := (List.range 31).all fun n => (List.range 31).all fun m => g9 (n : Nat) (m : Nat) == some true
theorem look9_true : look9 = true := by decide +kernel

theorem f9_plain (x1 x2 : Int) (h1 : 0 ≤ x1 ∧ x1 ≤ 255) (h2 : 0 ≤ x2 ∧ x2 ≤ 255) : f9 100 x1 x2 = some true := by
  rw [f9_eq, w64_in (by omega), w64_in (by omega), Int.tmod_eq_emod_of_nonneg h1.1, Int.tmod_eq_emod_of_nonneg h2.1]
  have h := look9_true
  simp only [look9, List.all_eq_true, List.mem_range] at h
  have h := eq_of_beq (h (x1 % 31).toNat (by omega) (x2 % 31).toNat (by omega))
  rw [Int.toNat_of_nonneg (by omega), Int.toNat_of_nonneg (by omega)] at h
  exact h

end Go.Gh.Bunch
