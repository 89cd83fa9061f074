/- Bunch: basics; how many divisions there are, by a table; the memo and the reference's rows say the same. -/
import Derived.Test.YtegnegeoodkpcaaBunch7N0
namespace Go.Gh.Bunch
set_option linter.unusedVariables false
set_option linter.unusedSimpArgs false

theorem w64_in {n : Int} (h : -9223372036854775808 ≤ n ∧ n < 9223372036854775808) : w64 n = n := by
  unfold w64 IntKind.wrap
  simp [IntKind.bits, IntKind.signed]
  split <;> omega

theorem at_of {α : Type} {l : List α} {i : Nat} {x : α} (h : l[i]? = some x) : at? l ((i : Nat) : Int) = some x := by
  unfold at?; simp [h]

theorem req_pos {α : Type} {p : Prop} [Decidable p] {x : Option α} (h : p) : req p x = x := by unfold req; rw [if_pos h]

theorem take0 {α : Type} (l : List α) : List.drop 0 (List.take (0 + l.length) l) = l := by simp

/-- How many divisions of n there are without a number greater than m. -/
def ctab : List (List Int) := [
  [1, 1, 1, 1, 1, 1, 1, 1, 1, 1, 1, 1, 1, 1, 1, 1, 1, 1, 1, 1, 1, 1, 1, 1, 1, 1, 1, 1, 1, 1, 1],
  [0, 1, 1, 1, 1, 1, 1, 1, 1, 1, 1, 1, 1, 1, 1, 1, 1, 1, 1, 1, 1, 1, 1, 1, 1, 1, 1, 1, 1, 1, 1],
  [0, 1, 2, 2, 2, 2, 2, 2, 2, 2, 2, 2, 2, 2, 2, 2, 2, 2, 2, 2, 2, 2, 2, 2, 2, 2, 2, 2, 2, 2, 2],
  [0, 1, 2, 3, 3, 3, 3, 3, 3, 3, 3, 3, 3, 3, 3, 3, 3, 3, 3, 3, 3, 3, 3, 3, 3, 3, 3, 3, 3, 3, 3],
  [0, 1, 3, 4, 5, 5, 5, 5, 5, 5, 5, 5, 5, 5, 5, 5, 5, 5, 5, 5, 5, 5, 5, 5, 5, 5, 5, 5, 5, 5, 5],
  [0, 1, 3, 5, 6, 7, 7, 7, 7, 7, 7, 7, 7, 7, 7, 7, 7, 7, 7, 7, 7, 7, 7, 7, 7, 7, 7, 7, 7, 7, 7],
  [0, 1, 4, 7, 9, 10, 11, 11, 11, 11, 11, 11, 11, 11, 11, 11, 11, 11, 11, 11, 11, 11, 11, 11, 11, 11, 11, 11, 11, 11, 11],
  [0, 1, 4, 8, 11, 13, 14, 15, 15, 15, 15, 15, 15, 15, 15, 15, 15, 15, 15, 15, 15, 15, 15, 15, 15, 15, 15, 15, 15, 15, 15],
  [0, 1, 5, 10, 15, 18, 20, 21, 22, 22, 22, 22, 22, 22, 22, 22, 22, 22, 22, 22, 22, 22, 22, 22, 22, 22, 22, 22, 22, 22, 22],
  [0, 1, 5, 12, 18, 23, 26, 28, 29, 30, 30, 30, 30, 30, 30, 30, 30, 30, 30, 30, 30, 30, 30, 30, 30, 30, 30, 30, 30, 30, 30],
  [0, 1, 6, 14, 23, 30, 35, 38, 40, 41, 42, 42, 42, 42, 42, 42, 42, 42, 42, 42, 42, 42, 42, 42, 42, 42, 42, 42, 42, 42, 42],
  [0, 1, 6, 16, 27, 37, 44, 49, 52, 54, 55, 56, 56, 56, 56, 56, 56, 56, 56, 56, 56, 56, 56, 56, 56, 56, 56, 56, 56, 56, 56],
  [0, 1, 7, 19, 34, 47, 58, 65, 70, 73, 75, 76, 77, 77, 77, 77, 77, 77, 77, 77, 77, 77, 77, 77, 77, 77, 77, 77, 77, 77, 77],
  [0, 1, 7, 21, 39, 57, 71, 82, 89, 94, 97, 99, 100, 101, 101, 101, 101, 101, 101, 101, 101, 101, 101, 101, 101, 101, 101, 101, 101, 101, 101],
  [0, 1, 8, 24, 47, 70, 90, 105, 116, 123, 128, 131, 133, 134, 135, 135, 135, 135, 135, 135, 135, 135, 135, 135, 135, 135, 135, 135, 135, 135, 135],
  [0, 1, 8, 27, 54, 84, 110, 131, 146, 157, 164, 169, 172, 174, 175, 176, 176, 176, 176, 176, 176, 176, 176, 176, 176, 176, 176, 176, 176, 176, 176],
  [0, 1, 9, 30, 64, 101, 136, 164, 186, 201, 212, 219, 224, 227, 229, 230, 231, 231, 231, 231, 231, 231, 231, 231, 231, 231, 231, 231, 231, 231, 231],
  [0, 1, 9, 33, 72, 119, 163, 201, 230, 252, 267, 278, 285, 290, 293, 295, 296, 297, 297, 297, 297, 297, 297, 297, 297, 297, 297, 297, 297, 297, 297],
  [0, 1, 10, 37, 84, 141, 199, 248, 288, 318, 340, 355, 366, 373, 378, 381, 383, 384, 385, 385, 385, 385, 385, 385, 385, 385, 385, 385, 385, 385, 385],
  [0, 1, 10, 40, 94, 164, 235, 300, 352, 393, 423, 445, 460, 471, 478, 483, 486, 488, 489, 490, 490, 490, 490, 490, 490, 490, 490, 490, 490, 490, 490],
  [0, 1, 11, 44, 108, 192, 282, 364, 434, 488, 530, 560, 582, 597, 608, 615, 620, 623, 625, 626, 627, 627, 627, 627, 627, 627, 627, 627, 627, 627, 627],
  [0, 1, 11, 48, 120, 221, 331, 436, 525, 598, 653, 695, 725, 747, 762, 773, 780, 785, 788, 790, 791, 792, 792, 792, 792, 792, 792, 792, 792, 792, 792],
  [0, 1, 12, 52, 136, 255, 391, 522, 638, 732, 807, 863, 905, 935, 957, 972, 983, 990, 995, 998, 1000, 1001, 1002, 1002, 1002, 1002, 1002, 1002, 1002, 1002, 1002],
  [0, 1, 12, 56, 150, 291, 454, 618, 764, 887, 984, 1060, 1116, 1158, 1188, 1210, 1225, 1236, 1243, 1248, 1251, 1253, 1254, 1255, 1255, 1255, 1255, 1255, 1255, 1255, 1255],
  [0, 1, 13, 61, 169, 333, 532, 733, 919, 1076, 1204, 1303, 1380, 1436, 1478, 1508, 1530, 1545, 1556, 1563, 1568, 1571, 1573, 1574, 1575, 1575, 1575, 1575, 1575, 1575, 1575],
  [0, 1, 13, 65, 185, 377, 612, 860, 1090, 1291, 1455, 1586, 1686, 1763, 1819, 1861, 1891, 1913, 1928, 1939, 1946, 1951, 1954, 1956, 1957, 1958, 1958, 1958, 1958, 1958, 1958],
  [0, 1, 14, 70, 206, 427, 709, 1009, 1297, 1549, 1761, 1930, 2063, 2164, 2241, 2297, 2339, 2369, 2391, 2406, 2417, 2424, 2429, 2432, 2434, 2435, 2436, 2436, 2436, 2436, 2436],
  [0, 1, 14, 75, 225, 480, 811, 1175, 1527, 1845, 2112, 2331, 2503, 2637, 2738, 2815, 2871, 2913, 2943, 2965, 2980, 2991, 2998, 3003, 3006, 3008, 3009, 3010, 3010, 3010, 3010],
  [0, 1, 15, 80, 249, 540, 931, 1367, 1801, 2194, 2534, 2812, 3036, 3210, 3345, 3446, 3523, 3579, 3621, 3651, 3673, 3688, 3699, 3706, 3711, 3714, 3716, 3717, 3718, 3718, 3718],
  [0, 1, 15, 85, 270, 603, 1057, 1579, 2104, 2592, 3015, 3370, 3655, 3882, 4057, 4192, 4293, 4370, 4426, 4468, 4498, 4520, 4535, 4546, 4553, 4558, 4561, 4563, 4564, 4565, 4565],
  [0, 1, 16, 91, 297, 674, 1206, 1824, 2462, 3060, 3590, 4035, 4401, 4691, 4920, 5096, 5231, 5332, 5409, 5465, 5507, 5537, 5559, 5574, 5585, 5592, 5597, 5600, 5602, 5603, 5604]]
def c (n m : Nat) : Int := ((ctab[n]?.getD [])[m]?.getD 0)

def cLook : Bool := (List.range 31).all fun n => (List.range 31).all fun m => decide (0 ≤ c n m ∧ c n m ≤ 10000) &&
  (if n = 0 then c n m == 1 else if m = 0 then c n m == 0 else if n < m then c n m == c n (m - 1) && c n m == c n n else c n m == c n (m - 1) + c (n - m) m)
theorem cLook_true : cLook = true := by decide +kernel
theorem c_look {n m : Nat} (hn : n ≤ 30) (hm : m ≤ 30) : (0 ≤ c n m ∧ c n m ≤ 10000) ∧ (n = 0 → c n m = 1) ∧ (0 < n → m = 0 → c n m = 0) ∧ (0 < n → n < m → c n m = c n (m - 1) ∧ c n m = c n n) ∧ (0 < m → m ≤ n → c n m = c n (m - 1) + c (n - m) m) := by
  have h := cLook_true
  simp only [cLook, List.all_eq_true, List.mem_range, Bool.and_eq_true, decide_eq_true_eq] at h
  obtain ⟨h1, h2⟩ := h n (by omega) m (by omega)
  refine ⟨h1, fun h0 => ?_, fun h0 h3 => ?_, fun h0 h3 => ?_, fun h0 h3 => ?_⟩
  · rw [if_pos h0] at h2; exact eq_of_beq h2
  · rw [if_neg (by omega), if_pos h3] at h2; exact eq_of_beq h2
  · rw [if_neg (by omega), if_neg (by omega), if_pos h3, Bool.and_eq_true] at h2; exact ⟨eq_of_beq h2.1, eq_of_beq h2.2⟩
  · rw [if_neg (by omega), if_neg (by omega), if_neg (by omega)] at h2; exact eq_of_beq h2
theorem c_min {n m : Nat} (hn : n ≤ 30) (hm : m ≤ 30) : c n m = c n (min n m) := by
  by_cases h : n < m
  · rw [Nat.min_eq_left (by omega)]
    by_cases h0 : n = 0
    · subst h0; rw [(c_look hn hm).2.1 rfl, (c_look (n := 0) (m := 0) (by omega) (by omega)).2.1 rfl]
    · exact ((c_look hn hm).2.2.2.1 (by omega) h).2
  · rw [Nat.min_eq_right (by omega)]

/-- What is kept is right. -/
def Good (M : List (Option Int)) : Prop := M.length = 961 ∧ ∀ i j v, i < 31 → j < 31 → M[i * 31 + j]? = some (some v) → v = c i j

theorem Good.none : Good (List.replicate 961 none) := by
  refine ⟨List.length_replicate .., fun i j v _ _ h => ?_⟩
  rw [List.getElem?_replicate] at h
  split at h <;> cases h

theorem Good.set {M : List (Option Int)} (h : Good M) {i j : Nat} (hi : i < 31) (hj : j < 31) : Good (M.set (i * 31 + j) (some (c i j))) := by
  refine ⟨by simp [h.1], fun i' j' v hi' hj' hv => ?_⟩
  by_cases he : i * 31 + j = i' * 31 + j'
  · have h1 : i = i' := by omega
    have h2 : j = j' := by omega
    subst h1; subst h2
    rw [List.getElem?_set_self (by rw [h.1]; omega)] at hv
    cases hv; rfl
  · rw [List.getElem?_set_ne he] at hv
    exact h.2 i' j' v hi' hj' hv

theorem min_int (n m : Nat) : (if (n : Int) < (m : Int) then (n : Int) else (m : Int)) = ((min n m : Nat) : Int) := by
  split <;> omega

theorem f58_eq (F : Nat) : ∀ (k n m : Nat) (M : List (Option Int)), n ≤ 30 → m ≤ 30 → n + m < k → Good M → ∃ M', f58 F k n m M = some (c n m, M') ∧ Good M' := by
  intro k
  induction k with
  | zero => intro n m M _ _ h; omega
  | succ k ih =>
    intro n m M hn hm hk hM
    simp only [f58, f58_b]
    rw [min_int]
    by_cases h0 : n = 0
    · subst h0
      rw [(c_look hn hm).2.1 rfl]
      exact ⟨M, by simp, hM⟩
    · rw [if_neg (by simp; omega)]
      by_cases h1 : m = 0
      · subst h1
        rw [(c_look hn hm).2.2.1 (by omega) rfl]
        exact ⟨M, by simp, hM⟩
      · have hp1 : 0 < min n m := by omega
        have hp2 : min n m ≤ n := by omega
        rw [if_neg (by simp; omega), c_min hn hm]
        generalize hp : min n m = p at *
        have hpm : p ≤ m := by omega
        have L := (c_look hn (show p ≤ 30 by omega)).2.2.2.2 hp1 hp2
        have L0 := (c_look hn (show p ≤ 30 by omega)).1
        simp only [f83]
        rw [min_int, Nat.min_eq_right hp2, req_pos (by omega), req_pos (by omega)]
        simp only [Int.toNat_natCast, Nat.zero_add, Nat.mul_one]
        obtain ⟨x6, hx⟩ : ∃ x, M[n * 31 + p]? = some x := ⟨_, List.getElem?_eq_getElem (by rw [hM.1]; omega)⟩
        rw [hx]
        cases x6 with
        | some v =>
          have := hM.2 n p v (by omega) (by omega) hx
          subst this
          exact ⟨M, by simp, hM⟩
        | none =>
          obtain ⟨M1, e1, g1⟩ := ih n (p - 1) M hn (by omega) (by omega) hM
          obtain ⟨M2, e2, g2⟩ := ih (n - p) p M1 (by omega) (by omega) (by omega) g1
          have w1 : w64 ((p : Int) - 1) = ((p - 1 : Nat) : Int) := by rw [w64_in (by omega)]; omega
          have w2 : w64 ((n : Int) - (p : Int)) = ((n - p : Nat) : Int) := by rw [w64_in (by omega)]; omega
          simp only [Option.bind_some, f84, w1, w2, e1, e2]
          rw [← L, w64_in (by omega), req_pos (by omega), List.getElem?_set_self (by rw [g2.1]; omega)]
          exact ⟨_, rfl, g2.set (by omega) (by omega)⟩

/-- What Counts answers. -/
def cc (x y : Int) : Int × Int := if 0 ≤ x ∧ x ≤ 30 ∧ 0 ≤ y ∧ y ≤ 30 then (c x.toNat y.toNat, 0) else (0, 1)
theorem cc_nat {n m : Nat} (hn : n ≤ 30) (hm : m ≤ 30) : cc n m = (c n m, 0) := by unfold cc; rw [if_pos (by omega)]; simp

theorem f57_eq {F : Nat} {x a b : Int} : f57 F x a b = some (decide (a ≤ x ∧ x ≤ b)) := by
  unfold f57
  by_cases h : a ≤ x <;> simp [h]

theorem f17_eq {F : Nat} (hF : 100 ≤ F) (x y : Int) : f17 F x y = some (cc x y) := by
  simp only [f17, f57_eq, Option.bind_some, decide_eq_true_eq, cc]
  by_cases h1 : 0 ≤ x ∧ x ≤ 30
  · by_cases h2 : 0 ≤ y ∧ y ≤ 30
    · rw [if_pos h1, if_pos h2, if_pos ⟨h1.1, h1.2, h2⟩]
      obtain ⟨M, e, _⟩ := f58_eq F F x.toNat y.toNat _ (by omega) (by omega) (by omega) Good.none
      rw [Int.toNat_of_nonneg h1.1, Int.toNat_of_nonneg h2.1] at e
      rw [e]; rfl
    · rw [if_pos h1, if_neg h2, if_neg (fun h => h2 ⟨h.2.2.1, h.2.2.2⟩)]
  · rw [if_neg h1, if_neg (fun h => h1 ⟨h.1, h.2.1⟩)]

theorem f15_eq {F : Nat} (hF : 100 ≤ F) (x : Int) : f15 F x = some (cc x (if 0 > x then 0 else x)) := by
  simp only [f15, f17_eq hF, Option.bind_some]

theorem works : f19 100 = some true := by decide +kernel
end Go.Gh.Bunch
