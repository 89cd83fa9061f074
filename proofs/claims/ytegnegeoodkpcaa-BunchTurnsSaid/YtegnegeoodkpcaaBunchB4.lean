/- What is needed of the plain texts. -/
import Derived.Test.YtegnegeoodkpcaaBunch4N0
namespace Go.Gh.Bunch
set_option linter.unusedVariables false
set_option linter.unusedSimpArgs false

theorem w64_in {n : Int} (h : -9223372036854775808 ≤ n ∧ n < 9223372036854775808) : w64 n = n := by
  unfold w64 IntKind.wrap
  simp [IntKind.bits, IntKind.signed]
  split <;> omega
theorem at_of {α : Type} {l : List α} {i : Nat} {x : α} (h : l[i]? = some x) : at? l ((i : Nat) : Int) = some x := by
  unfold at?; simp [h]
theorem req_pos {α : Type} {p : Prop} [Decidable p] {x : Option α} (h : p) : req p x = x := by unfold req; rw [if_pos h]
theorem take0 {α : Type} (l : List α) : List.drop 0 (List.take (0 + l.length) l) = l := by simp
/-- How many divisions of n there are without a number greater than m. -/
def ctab : List (List Int) := [
  [1, 1, 1, 1, 1, 1, 1, 1, 1, 1, 1, 1, 1, 1, 1, 1, 1, 1, 1, 1, 1, 1, 1, 1, 1, 1, 1, 1, 1, 1, 1],
  [0, 1, 1, 1, 1, 1, 1, 1, 1, 1, 1, 1, 1, 1, 1, 1, 1, 1, 1, 1, 1, 1, 1, 1, 1, 1, 1, 1, 1, 1, 1],
  [0, 1, 2, 2, 2, 2, 2, 2, 2, 2, 2, 2, 2, 2, 2, 2, 2, 2, 2, 2, 2, 2, 2, 2, 2, 2, 2, 2, 2, 2, 2],
  [0, 1, 2, 3, 3, 3, 3, 3, 3, 3, 3, 3, 3, 3, 3, 3, 3, 3, 3, 3, 3, 3, 3, 3, 3, 3, 3, 3, 3, 3, 3],
  [0, 1, 3, 4, 5, 5, 5, 5, 5, 5, 5, 5, 5, 5, 5, 5, 5, 5, 5, 5, 5, 5, 5, 5, 5, 5, 5, 5, 5, 5, 5],
  [0, 1, 3, 5, 6, 7, 7, 7, 7, 7, 7, 7, 7, 7, 7, 7, 7, 7, 7, 7, 7, 7, 7, 7, 7, 7, 7, 7, 7, 7, 7],
  [0, 1, 4, 7, 9, 10, 11, 11, 11, 11, 11, 11, 11, 11, 11, 11, 11, 11, 11, 11, 11, 11, 11, 11, 11, 11, 11, 11, 11, 11, 11],
  [0, 1, 4, 8, 11, 13, 14, 15, 15, 15, 15, 15, 15, 15, 15, 15, 15, 15, 15, 15, 15, 15, 15, 15, 15, 15, 15, 15, 15, 15, 15],
  [0, 1, 5, 10, 15, 18, 20, 21, 22, 22, 22, 22, 22, 22, 22, 22, 22, 22, 22, 22, 22, 22, 22, 22, 22, 22, 22, 22, 22, 22, 22],
  [0, 1, 5, 12, 18, 23, 26, 28, 29, 30, 30, 30, 30, 30, 30, 30, 30, 30, 30, 30, 30, 30, 30, 30, 30, 30, 30, 30, 30, 30, 30],
  [0, 1, 6, 14, 23, 30, 35, 38, 40, 41, 42, 42, 42, 42, 42, 42, 42, 42, 42, 42, 42, 42, 42, 42, 42, 42, 42, 42, 42, 42, 42],
  [0, 1, 6, 16, 27, 37, 44, 49, 52, 54, 55, 56, 56, 56, 56, 56, 56, 56, 56, 56, 56, 56, 56, 56, 56, 56, 56, 56, 56, 56, 56],
  [0, 1, 7, 19, 34, 47, 58, 65, 70, 73, 75, 76, 77, 77, 77, 77, 77, 77, 77, 77, 77, 77, 77, 77, 77, 77, 77, 77, 77, 77, 77],
  [0, 1, 7, 21, 39, 57, 71, 82, 89, 94, 97, 99, 100, 101, 101, 101, 101, 101, 101, 101, 101, 101, 101, 101, 101, 101, 101, 101, 101, 101, 101],
  [0, 1, 8, 24, 47, 70, 90, 105, 116, 123, 128, 131, 133, 134, 135, 135, 135, 135, 135, 135, 135, 135, 135, 135, 135, 135, 135, 135, 135, 135, 135],
  [0, 1, 8, 27, 54, 84, 110, 131, 146, 157, 164, 169, 172, 174, 175, 176, 176, 176, 176, 176, 176, 176, 176, 176, 176, 176, 176, 176, 176, 176, 176],
  [0, 1, 9, 30, 64, 101, 136, 164, 186, 201, 212, 219, 224, 227, 229, 230, 231, 231, 231, 231, 231, 231, 231, 231, 231, 231, 231, 231, 231, 231, 231],
  [0, 1, 9, 33, 72, 119, 163, 201, 230, 252, 267, 278, 285, 290, 293, 295, 296, 297, 297, 297, 297, 297, 297, 297, 297, 297, 297, 297, 297, 297, 297],
  [0, 1, 10, 37, 84, 141, 199, 248, 288, 318, 340, 355, 366, 373, 378, 381, 383, 384, 385, 385, 385, 385, 385, 385, 385, 385, 385, 385, 385, 385, 385],
  [0, 1, 10, 40, 94, 164, 235, 300, 352, 393, 423, 445, 460, 471, 478, 483, 486, 488, 489, 490, 490, 490, 490, 490, 490, 490, 490, 490, 490, 490, 490],
  [0, 1, 11, 44, 108, 192, 282, 364, 434, 488, 530, 560, 582, 597, 608, 615, 620, 623, 625, 626, 627, 627, 627, 627, 627, 627, 627, 627, 627, 627, 627],
  [0, 1, 11, 48, 120, 221, 331, 436, 525, 598, 653, 695, 725, 747, 762, 773, 780, 785, 788, 790, 791, 792, 792, 792, 792, 792, 792, 792, 792, 792, 792],
  [0, 1, 12, 52, 136, 255, 391, 522, 638, 732, 807, 863, 905, 935, 957, 972, 983, 990, 995, 998, 1000, 1001, 1002, 1002, 1002, 1002, 1002, 1002, 1002, 1002, 1002],
  [0, 1, 12, 56, 150, 291, 454, 618, 764, 887, 984, 1060, 1116, 1158, 1188, 1210, 1225, 1236, 1243, 1248, 1251, 1253, 1254, 1255, 1255, 1255, 1255, 1255, 1255, 1255, 1255],
  [0, 1, 13, 61, 169, 333, 532, 733, 919, 1076, 1204, 1303, 1380, 1436, 1478, 1508, 1530, 1545, 1556, 1563, 1568, 1571, 1573, 1574, 1575, 1575, 1575, 1575, 1575, 1575, 1575],
  [0, 1, 13, 65, 185, 377, 612, 860, 1090, 1291, 1455, 1586, 1686, 1763, 1819, 1861, 1891, 1913, 1928, 1939, 1946, 1951, 1954, 1956, 1957, 1958, 1958, 1958, 1958, 1958, 1958],
  [0, 1, 14, 70, 206, 427, 709, 1009, 1297, 1549, 1761, 1930, 2063, 2164, 2241, 2297, 2339, 2369, 2391, 2406, 2417, 2424, 2429, 2432, 2434, 2435, 2436, 2436, 2436, 2436, 2436],
  [0, 1, 14, 75, 225, 480, 811, 1175, 1527, 1845, 2112, 2331, 2503, 2637, 2738, 2815, 2871, 2913, 2943, 2965, 2980, 2991, 2998, 3003, 3006, 3008, 3009, 3010, 3010, 3010, 3010],
  [0, 1, 15, 80, 249, 540, 931, 1367, 1801, 2194, 2534, 2812, 3036, 3210, 3345, 3446, 3523, 3579, 3621, 3651, 3673, 3688, 3699, 3706, 3711, 3714, 3716, 3717, 3718, 3718, 3718],
  [0, 1, 15, 85, 270, 603, 1057, 1579, 2104, 2592, 3015, 3370, 3655, 3882, 4057, 4192, 4293, 4370, 4426, 4468, 4498, 4520, 4535, 4546, 4553, 4558, 4561, 4563, 4564, 4565, 4565],
  [0, 1, 16, 91, 297, 674, 1206, 1824, 2462, 3060, 3590, 4035, 4401, 4691, 4920, 5096, 5231, 5332, 5409, 5465, 5507, 5537, 5559, 5574, 5585, 5592, 5597, 5600, 5602, 5603, 5604]]
def c (n m : Nat) : Int := ((ctab[n]?.getD [])[m]?.getD 0)
theorem f57_eq {F : Nat} {x a b : Int} : f57 F x a b = some (decide (a ≤ x ∧ x ≤ b)) := by
  unfold f57
  by_cases h : a ≤ x <;> simp [h]
theorem drop_cons {α : Type} {l : List α} {i : Nat} (h : i < l.length) : l.drop i = l[i] :: l.drop (i + 1) := List.drop_eq_getElem_cons h
/-- What holds of any two neighbours. -/
def adj (p : Int → Int → Bool) : List Int → Bool
  | a :: b :: r => p a b && adj p (b :: r)
  | _ => true
theorem adj_drop {p : Int → Int → Bool} {l : List Int} {i : Nat} (h0 : 0 < i) (h : i < l.length) : adj p (l.drop (i - 1)) = (p l[i - 1] l[i] && adj p (l.drop i)) := by
  rw [drop_cons (i := i - 1) (by omega)]
  simp only [Nat.sub_add_cancel h0]
  rw [drop_cons (i := i) h]
  rfl
theorem adj_end {p : Int → Int → Bool} {l : List Int} {i : Nat} (h : l.length ≤ i) : adj p (l.drop (i - 1)) = true := by
  by_cases h1 : l.length ≤ i - 1
  · rw [List.drop_eq_nil_of_le h1]; rfl
  · rw [drop_cons (by omega), List.drop_eq_nil_of_le (by omega)]; rfl
def uneq (a b : Int) : Bool := b != a
theorem f60_p1_eq {F : Nat} {l : List Int} (hl : l.length ≤ 5000) : ∀ (k i : Nat), 0 < i → l.length < k + i → f60_p1 F l (k + 1) i = some (if adj uneq (l.drop (i - 1)) = true then .c1 else .c0) := by
  intro k
  induction k with
  | zero =>
    intro i h0 h
    unfold f60_p1
    rw [if_neg (by simp; omega), if_pos (adj_end (by omega))]
  | succ k ih =>
    intro i h0 h
    unfold f60_p1
    by_cases hi : i < l.length
    · rw [if_pos (by simp; omega), at_of (List.getElem?_eq_getElem hi), Option.bind_some]
      rw [show w64 ((i : Int) - 1) = ((i - 1 : Nat) : Int) by rw [w64_in (by omega)]; omega, at_of (List.getElem?_eq_getElem (by omega : i - 1 < l.length)), Option.bind_some]
      rw [show w64 ((i : Int) + 1) = ((i + 1 : Nat) : Int) by rw [w64_in (by omega)]; omega, adj_drop h0 hi]
      by_cases he : l[i] = l[i - 1]
      · rw [if_pos (by simp [he]), if_neg (by simp [uneq, he])]
      · rw [if_neg (by simp [he]), ih (i + 1) (by omega) (by omega), Nat.add_sub_cancel]
        congr 1
        have : uneq l[i - 1] l[i] = true := by simp [uneq, he]
        rw [this, Bool.true_and]
    · rw [if_neg (by simp; omega), if_pos (adj_end (by omega))]
theorem f60_eq {F : Nat} {l : List Int} (hl : l.length ≤ 100) (hF : 200 ≤ F) : f60 F l = some (adj uneq l) := by
  unfold f60
  obtain ⟨G, rfl⟩ : ∃ G, F = G + 1 := ⟨F - 1, by omega⟩
  rw [show (1 : Int) = ((1 : Nat) : Int) from rfl, f60_p1_eq (by omega) G 1 (by omega) (by omega), Option.bind_some]
  simp only [Nat.sub_self, List.drop_zero]
  cases adj uneq l <;> rfl
theorem f55_eqV {F : Nat} {x a b : Int} : f55 F x a b = some (decide (a ≤ x ∧ x ≤ b)) := by
  unfold f55
  by_cases h : a ≤ x <;> simp [h]

/- The codes of Check. -/
def chkL : Int → List Int → Int
  | _, [] => 0
  | p, x :: r => if 1 ≤ x ∧ x ≤ 30 then (if x > p then 7 else chkL x r) else 1
def sm (l : List Int) : Int := l.foldr (· + ·) 0
def chk (l : List Int) : Int := if chkL 30 l ≠ 0 then chkL 30 l else if sm l > 30 then 3 else 0
theorem sm_cons (x : Int) (r : List Int) : sm (x :: r) = x + sm r := rfl
theorem chkL_sm : ∀ (l : List Int) (p : Int), chkL p l = 0 → l.length ≤ sm l ∧ sm l ≤ 30 * l.length := by
  intro l
  induction l with
  | nil => intro _ _; exact ⟨by decide, by decide⟩
  | cons x r ih =>
    intro p h
    simp only [chkL] at h
    split at h
    · split at h
      · cases h
      · have := ih _ h
        rw [sm_cons]; simp only [List.length_cons]; omega
    · cases h
theorem f34_p1_eq {F : Nat} {l : List Int} (hl : l.length ≤ 100) : ∀ (k i : Nat) (p s : Int), i ≤ l.length → l.length < k + i → 0 ≤ s → s ≤ 31 →
    ∃ z, f34_p1 F l k p s i = some z ∧ (chkL p (l.drop i) ≠ 0 → z = .c0 (chkL p (l.drop i))) ∧ (chkL p (l.drop i) = 0 → z = .c1 (if 31 < s + sm (l.drop i) then 31 else s + sm (l.drop i))) := by
  intro k
  induction k with
  | zero => intro i p s _ h; omega
  | succ k ih =>
    intro i p s h1 h2 h3 h4
    unfold f34_p1
    by_cases hi : i < l.length
    · rw [if_pos (by simp; omega), at_of (List.getElem?_eq_getElem hi), drop_cons hi]
      simp only [Option.bind_some, f57_eq, decide_eq_true_eq, chkL]
      by_cases hx : 1 ≤ l[i] ∧ l[i] ≤ 30
      · rw [if_pos hx, if_pos hx]
        by_cases hp : l[i] > p
        · rw [if_pos hp, if_pos hp]
          exact ⟨_, rfl, fun _ => rfl, fun h => by cases h⟩
        · rw [if_neg hp, if_neg hp, show w64 ((i : Int) + 1) = ((i + 1 : Nat) : Int) by rw [w64_in (by omega)]; omega, w64_in (n := s + l[i]) (by omega)]
          obtain ⟨z, e1, e2, e3⟩ := ih (i + 1) l[i] (if 31 < s + l[i] then 31 else s + l[i]) (by omega) (by omega) (by split <;> omega) (by split <;> omega)
          refine ⟨z, e1, e2, fun h => ?_⟩
          rw [e3 h, sm_cons]
          have := chkL_sm _ _ h
          congr 1
          split <;> split <;> split <;> omega
      · rw [if_neg hx, if_neg hx]
        exact ⟨_, rfl, fun _ => rfl, fun h => by cases h⟩
    · rw [if_neg (by simp; omega), List.drop_eq_nil_of_le (by omega)]
      refine ⟨_, rfl, fun h => absurd rfl h, fun _ => ?_⟩
      simp only [sm, List.foldr_nil, Int.add_zero]
      rw [if_neg (by omega)]
theorem f34_eq {F : Nat} {l : List Int} (hl : l.length ≤ 100) (hF : 200 ≤ F) : f34 F l = some (chk l) := by
  obtain ⟨z, e1, e2, e3⟩ := f34_p1_eq (F := F) hl F 0 30 0 (by omega) (by omega) (by omega) (by omega)
  unfold f34 chk
  rw [show (0 : Int) = ((0 : Nat) : Int) from rfl] at e1 ⊢
  rw [show (((0 : Nat) : Int)) = 0 from rfl] at e1 ⊢
  rw [show f34_p1 F l F 30 0 0 = some z from e1, Option.bind_some]
  rw [List.drop_zero] at e2 e3
  by_cases h : chkL 30 l = 0
  · rw [e3 h, if_neg (c := chkL 30 l ≠ 0) (fun hh => hh h)]
    simp only [decide_eq_true_eq]
    have := chkL_sm _ _ h
    rw [Int.zero_add]
    by_cases hs : sm l > 30
    · rw [if_pos hs, if_pos (by split <;> omega)]
    · rw [if_neg hs, if_neg (by split <;> omega)]
  · rw [e2 h, if_pos h]
theorem f35_p1_eq {F : Nat} {l : List Int} (hl : l.length ≤ 100) : ∀ (k i : Nat) (p : Int), i ≤ l.length → l.length < k + i → (i = 0 → p = 30) → (∀ h : 0 < i, ∀ h2 : i - 1 < l.length, p = l[i - 1]) →
    ∃ z, f35_p1 F l k i = some z ∧ (chkL p (l.drop i) ≠ 0 → z = .c0 (chkL p (l.drop i))) ∧ (chkL p (l.drop i) = 0 → z = .c1) := by
  intro k
  induction k with
  | zero => intro i p _ h; omega
  | succ k ih =>
    intro i p h1 h2 h3 h4
    unfold f35_p1
    by_cases hi : i < l.length
    · have w1 : w64 ((i : Int) + 1) = ((i + 1 : Nat) : Int) := by rw [w64_in (by omega)]; omega
      have ih' := ih (i + 1) l[i] (by omega) (by omega) (by omega) (fun _ _ => by simp only [Nat.add_sub_cancel])
      rw [if_pos (by simp; omega), at_of (List.getElem?_eq_getElem hi), drop_cons hi]
      simp only [Option.bind_some, f55_eqV, decide_eq_true_eq, chkL]
      by_cases hx : 1 ≤ l[i] ∧ l[i] ≤ 30
      · rw [if_pos hx, if_pos hx]
        by_cases h0 : i = 0
        · have hp := h3 h0
          rw [if_neg (by omega), if_neg (by omega), w1]
          exact ih'
        · have hp := h4 (by omega) (by omega)
          rw [if_pos (by omega), show w64 ((i : Int) - 1) = ((i - 1 : Nat) : Int) by rw [w64_in (by omega)]; omega, at_of (List.getElem?_eq_getElem (by omega : i - 1 < l.length)), Option.bind_some, ← hp]
          by_cases hq : l[i] > p
          · rw [if_pos hq, if_pos hq]
            exact ⟨_, rfl, fun _ => rfl, fun h => by cases h⟩
          · rw [if_neg hq, if_neg hq, w1]
            exact ih'
      · rw [if_neg hx, if_neg hx]
        exact ⟨_, rfl, fun _ => rfl, fun h => by cases h⟩
    · rw [if_neg (by simp; omega), List.drop_eq_nil_of_le (by omega)]
      exact ⟨_, rfl, fun h => absurd rfl h, fun _ => rfl⟩
theorem f71_p1_eq {F : Nat} {l : List Int} (hl : l.length ≤ 100) (hx : ∀ x ∈ l, 1 ≤ x ∧ x ≤ 30) : ∀ (k i : Nat) (s : Int), i ≤ l.length → l.length < k + i → 0 ≤ s → s ≤ 100 * i → f71_p1 F l k s i = some (s + sm (l.drop i)) := by
  intro k
  induction k with
  | zero => intro i s _ h; omega
  | succ k ih =>
    intro i s h1 h2 h3 h4
    unfold f71_p1
    by_cases hi : i < l.length
    · have := hx _ (List.getElem_mem hi)
      rw [if_pos (by simp; omega), at_of (List.getElem?_eq_getElem hi), Option.bind_some, drop_cons hi, sm_cons]
      rw [show w64 ((i : Int) + 1) = ((i + 1 : Nat) : Int) by rw [w64_in (by omega)]; omega, w64_in (by omega), ih (i + 1) _ (by omega) (by omega) (by omega) (by omega)]
      congr 1; omega
    · rw [if_neg (by simp; omega), List.drop_eq_nil_of_le (by omega)]
      simp [sm]
theorem chkL_all : ∀ (l : List Int) (p : Int), chkL p l = 0 → ∀ x ∈ l, 1 ≤ x ∧ x ≤ 30 := by
  intro l
  induction l with
  | nil => intro _ _ x hx; cases hx
  | cons y r ih =>
    intro p h x hx
    simp only [chkL] at h
    split at h
    · split at h
      · cases h
      · rcases List.mem_cons.1 hx with rfl | hx
        · assumption
        · exact ih _ h x hx
    · cases h
theorem f71_eq {F : Nat} {l : List Int} (hl : l.length ≤ 100) (hF : 200 ≤ F) (hx : ∀ x ∈ l, 1 ≤ x ∧ x ≤ 30) : f71 F l = some (sm l) := by
  have h := f71_p1_eq (F := F) hl hx F 0 0 (by omega) (by omega) (by omega) (by omega)
  rw [Int.zero_add, List.drop_zero] at h
  unfold f71
  rw [show f71_p1 F l F 0 0 = some (sm l) from h, Option.bind_some]
theorem f35_eq {F : Nat} {l : List Int} (hl : l.length ≤ 100) (hF : 200 ≤ F) : f35 F l = some (chk l) := by
  obtain ⟨z, e1, e2, e3⟩ := f35_p1_eq (F := F) hl F 0 30 (by omega) (by omega) (fun _ => rfl) (fun h => by omega)
  rw [List.drop_zero] at e2 e3
  unfold f35 chk
  rw [show f35_p1 F l F 0 = some z from e1, Option.bind_some]
  by_cases hc : chkL 30 l = 0
  · rw [e3 hc, if_neg (c := chkL 30 l ≠ 0) (fun hh => hh hc)]
    have := chkL_sm _ _ hc
    simp only [f71_eq hl hF (chkL_all _ _ hc), Option.bind_some, decide_eq_true_eq]
    split <;> split <;> first | rfl | omega
  · rw [e2 hc, if_pos hc]
/-- How many numbers are not below k. -/
def cge (k : Int) : List Int → Int
  | [] => 0
  | x :: r => (if x ≥ k then 1 else 0) + cge k r
theorem cge_bd (k : Int) : ∀ l : List Int, 0 ≤ cge k l ∧ cge k l ≤ l.length
  | [] => by simp [cge]
  | x :: r => by
    have := cge_bd k r
    simp only [cge, List.length_cons]
    split <;> omega
theorem chkL_le : ∀ (l : List Int) (p : Int), chkL p l = 0 → ∀ x ∈ l, x ≤ p := by
  intro l
  induction l with
  | nil => intro _ _ x hx; cases hx
  | cons y r ih =>
    intro p h x hx
    simp only [chkL] at h
    split at h
    · split at h
      · cases h
      · rcases List.mem_cons.1 hx with rfl | hx
        · omega
        · have := ih _ h x hx
          omega
    · cases h
theorem cge_zero : ∀ (l : List Int) (k : Int), (∀ x ∈ l, x < k) → cge k l = 0 := by
  intro l
  induction l with
  | nil => intro _ _; rfl
  | cons y r ih =>
    intro k h
    have := h y (by simp)
    rw [cge, if_neg (by omega), ih k (fun x hx => h x (by simp [hx]))]
    rfl
theorem cge_at : ∀ (l : List Int) (p k : Int) (n : Nat), chkL p l = 0 → n ≤ l.length → (∀ h : n < l.length, l[n] < k) → (∀ h : n - 1 < l.length, 0 < n → l[n - 1] ≥ k) → cge k l = n := by
  intro l
  induction l with
  | nil => intro p k n _ h _ _; simp at h; subst h; rfl
  | cons y r ih =>
    intro p k n h hn h1 h2
    have hr : chkL y r = 0 := by
      simp only [chkL] at h
      split at h
      · split at h
        · cases h
        · exact h
      · cases h
    have hle := chkL_le _ _ hr
    match n, hn, h1, h2 with
    | 0, _, h1, _ =>
      have h1 := h1 (by simp)
      simp only [List.getElem_cons_zero] at h1
      refine cge_zero _ _ fun x hx => ?_
      rcases List.mem_cons.1 hx with rfl | hx
      · exact h1
      · have := hle x hx
        omega
    | n + 1, hn, h1, h2 =>
      simp only [List.length_cons] at hn
      have h2 := h2 (by simp; omega) (by omega)
      simp only [Nat.add_sub_cancel] at h2
      have hy : y ≥ k := by
        cases n with
        | zero => simpa using h2
        | succ n =>
          have : n < r.length := by omega
          simp only [List.getElem_cons_succ] at h2
          have := hle _ (List.getElem_mem this)
          omega
      rw [cge, if_pos hy, ih y k n hr (by omega) (fun h => by have := h1 (by simp; omega); simpa using this) (fun h h0 => ?_)]
      · omega
      · obtain ⟨m, rfl⟩ : ∃ m, n = m + 1 := ⟨n - 1, by omega⟩
        simpa using h2
def turn (l : List Int) (m : Nat) : List Int := (List.range m).map fun (j : Nat) => cge ((j : Int) + 1) l
theorem turn_len (l : List Int) (m : Nat) : (turn l m).length = m := by simp [turn]
theorem turn_succ (l : List Int) (m : Nat) : turn l (m + 1) = turn l m ++ [cge ((m : Int) + 1) l] := by simp [turn, List.range_succ]
theorem turn_add {l : List Int} {m : Nat} {n : Int} : ∀ d : Nat, (∀ j, m ≤ j → j < m + d → cge ((j : Int) + 1) l = n) → turn l (m + d) = turn l m ++ List.replicate d n := by
  intro d
  induction d with
  | zero => intro _; simp
  | succ d ih =>
    intro h
    rw [← Nat.add_assoc, turn_succ, ih (fun j h1 h2 => h j h1 (by omega)), h (m + d) (by omega) (by omega), List.replicate_succ', List.append_assoc]
theorem f61_p6_eq {F : Nat} {l : List Int} {n a b : Int} (hb : 0 ≤ b) (hab : b ≤ a) (ha : a ≤ 30) : ∀ (k i : Nat) (acc : List Int), (i : Int) ≤ a - b → a - b < k + i → acc.length ≤ 1000 + i →
    f61_p6_1 F l n a b k i acc = some (acc ++ List.replicate ((a - b).toNat - i) n) := by
  intro k
  induction k with
  | zero => intro i acc _ h; omega
  | succ k ih =>
    intro i acc h1 h2 h3
    unfold f61_p6_1
    rw [w64_in (n := a - b) (by omega)]
    by_cases hi : (i : Int) < a - b
    · rw [if_pos (by simpa using hi), req_pos (by simp; omega), show w64 ((i : Int) + 1) = ((i + 1 : Nat) : Int) by rw [w64_in (by omega)]; omega]
      rw [ih (i + 1) _ (by omega) (by omega) (by simp; omega)]
      rw [show (a - b).toNat - i = ((a - b).toNat - (i + 1)) + 1 by omega, List.replicate_succ, List.append_assoc]
      rfl
    · rw [if_neg (by simpa using hi), show (a - b).toNat - i = 0 by omega]
      simp
def nxt (l : List Int) (n : Nat) : Int := (l[n]?.getD 0)
theorem nxt_lt {l : List Int} {n : Nat} (h : n < l.length) : nxt l n = l[n] := by simp [nxt, List.getElem?_eq_getElem h]
theorem nxt_ge {l : List Int} {n : Nat} (h : l.length ≤ n) : nxt l n = 0 := by simp [nxt, List.getElem?_eq_none h]
theorem chkL_step : ∀ (l : List Int) (p : Int), chkL p l = 0 → ∀ n, (h : n + 1 < l.length) → l[n + 1] ≤ l[n] := by
  intro l
  induction l with
  | nil => intro _ _ n h; simp at h
  | cons y r ih =>
    intro p h n hn
    have hr : chkL y r = 0 := by
      simp only [chkL] at h
      split at h
      · split at h
        · cases h
        · exact h
      · cases h
    cases n with
    | zero =>
      simp only [List.getElem_cons_succ, List.getElem_cons_zero]
      exact chkL_le _ _ hr _ (List.getElem_mem _)
    | succ n =>
      simp only [List.getElem_cons_succ]
      exact ih y hr n (by simpa using hn)
theorem f61_p1_eq {F : Nat} (hF : 200 ≤ F) {l : List Int} (hl : l.length ≤ 100) (hc : chkL 30 l = 0) : ∀ (k n : Nat), n ≤ l.length → n < k →
    f61_p1 F l k n (turn l (nxt l n).toNat) = some (turn l (nxt l 0).toNat) := by
  have hx := chkL_all _ _ hc
  intro k
  induction k with
  | zero => intro n _ h; omega
  | succ k ih =>
    intro n h1 h2
    unfold f61_p1
    by_cases h0 : 0 < n
    · have hn : n - 1 < l.length := by omega
      have hx1 := hx _ (List.getElem_mem hn)
      have e1 : f61_p4_1 F l (turn l (nxt l n).toNat) n = some (nxt l n) := by
        unfold f61_p4_1
        by_cases h : n < l.length
        · rw [if_pos (by simp; omega), at_of (List.getElem?_eq_getElem h), Option.bind_some, nxt_lt h]
        · rw [if_neg (by simp; omega), nxt_ge (by omega)]
      have hle : nxt l n ≤ l[n - 1] ∧ 0 ≤ nxt l n := by
        by_cases h : n < l.length
        · rw [nxt_lt h]
          have := chkL_step _ _ hc (n - 1) (by omega)
          simp only [Nat.sub_add_cancel h0] at this
          have := hx _ (List.getElem_mem h)
          omega
        · rw [nxt_ge (by omega)]; omega
      rw [if_pos (by simp; omega), e1, Option.bind_some, show w64 ((n : Int) - 1) = ((n - 1 : Nat) : Int) by rw [w64_in (by omega)]; omega, at_of (List.getElem?_eq_getElem hn), Option.bind_some]
      have e2 := f61_p6_eq (F := F) (l := l) (n := (n : Int)) (a := l[n - 1]) (b := nxt l n) hle.2 hle.1 hx1.2 F 0 (turn l (nxt l n).toNat) (by omega) (by omega) (by rw [turn_len]; omega)
      rw [show f61_p6_1 F l n l[n - 1] (nxt l n) F 0 (turn l (nxt l n).toNat) = _ from e2, Option.bind_some]
      have e3 : turn l (nxt l n).toNat ++ List.replicate ((l[n - 1] - nxt l n).toNat - 0) (n : Int) = turn l (nxt l (n - 1)).toNat := by
        rw [nxt_lt hn, ← turn_add]
        · congr 1; omega
        · intro j hj1 hj2
          refine cge_at l 30 _ n hc h1 (fun h => ?_) (fun h _ => by omega)
          rw [nxt_lt h] at hj1
          have := hx _ (List.getElem_mem h)
          omega
      rw [e3]
      exact ih (n - 1) (by omega) (by omega)
    · have : n = 0 := by omega
      subst this
      rw [if_neg (by decide)]
theorem f61_eq {F : Nat} (hF : 200 ≤ F) {l : List Int} (hl : l.length ≤ 100) (hc : chkL 30 l = 0) : f61 F l = some (turn l (nxt l 0).toNat) := by
  have e := f61_p1_eq hF hl hc F l.length (Nat.le_refl _) (by omega)
  rw [nxt_ge (Nat.le_refl _), show turn l (Int.toNat 0) = [] from rfl] at e
  unfold f61
  rw [show f61_p1 F l F ((l.length : Nat) : Int) [] = _ from e, Option.bind_some, take0]
theorem f62_p5_eq {F : Nat} {l o : List Int} {q : Int} (hl : l.length ≤ 100) : ∀ (k i : Nat) (a : Int), i ≤ l.length → l.length < k + i → 0 ≤ a → a ≤ i → f62_p5_1 F l o q k a i = some (a + cge q (l.drop i)) := by
  intro k
  induction k with
  | zero => intro i a _ h; omega
  | succ k ih =>
    intro i a h1 h2 h3 h4
    unfold f62_p5_1
    by_cases hi : i < l.length
    · rw [if_pos (by simp; omega), at_of (List.getElem?_eq_getElem hi), Option.bind_some, show w64 ((i : Int) + 1) = ((i + 1 : Nat) : Int) by rw [w64_in (by omega)]; omega, drop_cons hi, cge]
      unfold f62_p8_1
      rw [w64_in (by omega)]
      by_cases h : l[i] ≥ q
      · rw [if_pos (by simpa using h), if_pos h, Option.bind_some, ih (i + 1) _ (by omega) (by omega) (by omega) (by omega)]
        congr 1; omega
      · rw [if_neg (by simpa using h), if_neg h, Option.bind_some, ih (i + 1) _ (by omega) (by omega) (by omega) (by omega)]
        congr 1; omega
    · rw [if_neg (by simp; omega), List.drop_eq_nil_of_le (by omega)]
      simp [cge]
theorem f62_eq {F : Nat} (hF : 200 ≤ F) {l : List Int} (hl : l.length ≤ 100) (hc : chkL 30 l = 0) : f62 F l = some (turn l (nxt l 0).toNat) := by
  have hx := chkL_all _ _ hc
  unfold f62
  have loop : ∀ (k m : Nat), (m : Int) ≤ nxt l 0 → nxt l 0 < k + m → f62_p1 F l k ((m + 1 : Nat) : Int) (turn l m) = some (turn l (nxt l 0).toNat) := by
    intro k
    induction k with
    | zero => intro m _ h; omega
    | succ k ih =>
      intro m h1 h2
      unfold f62_p1
      by_cases hl0 : 0 < l.length
      · have hx0 := hx _ (List.getElem_mem hl0)
        rw [nxt_lt hl0] at h1 h2
        rw [if_pos (by simp; omega), show at? l 0 = some l[0] from at_of (List.getElem?_eq_getElem hl0), Option.bind_some]
        by_cases hm : (m : Int) < l[0]
        · have e := f62_p5_eq (F := F) (o := turn l m) (q := ((m + 1 : Nat) : Int)) hl F 0 0 (by omega) (by omega) (by omega) (by omega)
          have hcb := cge_bd ((m + 1 : Nat) : Int) l
          rw [if_pos (by simp; omega), show f62_p5_1 F l (turn l m) ((m + 1 : Nat) : Int) F 0 0 = _ from e, Option.bind_some, req_pos (by rw [turn_len]; simp; omega), show w64 (((m + 1 : Nat) : Int) + 1) = ((m + 1 + 1 : Nat) : Int) by rw [w64_in (by omega)]; omega]
          rw [List.drop_zero, Int.zero_add, show ((m + 1 : Nat) : Int) = (m : Int) + 1 from rfl, ← turn_succ]
          exact ih (m + 1) (by rw [nxt_lt hl0]; omega) (by rw [nxt_lt hl0]; omega)
        · rw [if_neg (by simp; omega), nxt_lt hl0, show m = l[0].toNat by omega]
      · rw [nxt_ge (by omega)] at h1 ⊢
        rw [if_neg (by simp only [decide_eq_true_eq]; omega), show m = (0 : Int).toNat by omega]
  have hb : nxt l 0 ≤ 30 := by
    by_cases h : 0 < l.length
    · rw [nxt_lt h]; exact (hx _ (List.getElem_mem h)).2
    · rw [nxt_ge (by omega)]; omega
  have h0 : 0 ≤ nxt l 0 := by
    by_cases h : 0 < l.length
    · rw [nxt_lt h]; have := (hx _ (List.getElem_mem h)).1; omega
    · rw [nxt_ge (by omega)]; omega
  have e := loop F 0 (by omega) (by omega)
  rw [show turn l 0 = [] from rfl] at e
  rw [show f62_p1 F l F 1 [] = _ from e, Option.bind_some, take0]
theorem f31_p2_eq {F : Nat} {a b : List Int} (hab : a.length = b.length) (ha : a.length ≤ 5000) : ∀ (k i : Nat), i ≤ a.length → a.length < k + i → f31_p2 F a b k i = some (if a.drop i = b.drop i then .c1 else .c0) := by
  intro k
  induction k with
  | zero => intro i _ h; omega
  | succ k ih =>
    intro i h1 h2
    unfold f31_p2
    by_cases hi : i < a.length
    · rw [if_pos (by simp; omega), at_of (List.getElem?_eq_getElem hi), at_of (List.getElem?_eq_getElem (by omega : i < b.length)), Option.bind_some, Option.bind_some]
      have e : (List.drop i a = List.drop i b) = (a[i] = b[i] ∧ List.drop (i + 1) a = List.drop (i + 1) b) := by rw [drop_cons hi, drop_cons (by omega : i < b.length), List.cons.injEq]
      simp only [e]
      by_cases he : a[i] = b[i]
      · rw [if_neg (by simp [he]), show w64 ((i : Int) + 1) = ((i + 1 : Nat) : Int) by rw [w64_in (by omega)]; omega, ih (i + 1) (by omega) (by omega)]
        simp only [he, true_and]
      · rw [if_pos (by simp [he]), if_neg (fun h => he h.1)]
    · rw [if_neg (by simp; omega), List.drop_eq_nil_of_le (by omega), List.drop_eq_nil_of_le (by omega)]
      rfl
theorem f31_eq {F : Nat} {a b : List Int} (ha : a.length < F) (hF : F ≤ 5000) : f31 F a b = some (decide (a = b)) := by
  unfold f31
  by_cases hab : a.length = b.length
  · have h := f31_p2_eq (F := F) hab (by omega) F 0 (by omega) (by omega)
    rw [List.drop_zero, List.drop_zero] at h
    rw [if_neg (by simp [hab]), show f31_p2 F a b F 0 = _ from h, Option.bind_some]
    by_cases he : a = b
    · rw [if_pos he, decide_eq_true he]
    · rw [if_neg he, decide_eq_false he]
  · rw [if_pos (by simp; omega), decide_eq_false (fun h => hab (by rw [h]))]

/- Number -/
def odds : List Int → Bool
  | [] => true
  | x :: r => !(Int.tmod x 2 == 0) && odds r
theorem f85_p1_eq {F : Nat} {l : List Int} (hl : l.length ≤ 100) : ∀ (k i : Nat), i ≤ l.length → l.length < k + i → ∃ z, f85_p1 F l k i = some z ∧ (odds (l.drop i) = true → z = .c1) ∧ (odds (l.drop i) = false → ∃ j : Nat, z = .c0 j) := by
  intro k
  induction k with
  | zero => intro i _ h; omega
  | succ k ih =>
    intro i h1 h2
    unfold f85_p1
    by_cases hi : i < l.length
    · rw [if_pos (by simp; omega), at_of (List.getElem?_eq_getElem hi), Option.bind_some, drop_cons hi]
      simp only [f64, Option.bind_some, odds]
      by_cases h : (Int.tmod l[i] 2 == 0) = true
      · rw [if_pos h]
        exact ⟨_, rfl, fun hh => by simp [h] at hh, fun _ => ⟨i, rfl⟩⟩
      · rw [if_neg h, show w64 ((i : Int) + 1) = ((i + 1 : Nat) : Int) by rw [w64_in (by omega)]; omega]
        obtain ⟨z, e1, e2, e3⟩ := ih (i + 1) (by omega) (by omega)
        have h := Bool.eq_false_iff.2 h
        refine ⟨z, e1, fun hh => e2 (by simpa [h] using hh), fun hh => e3 (by simpa [h] using hh)⟩
    · rw [if_neg (by simp; omega), List.drop_eq_nil_of_le (by omega)]
      exact ⟨_, rfl, fun _ => rfl, fun h => by simp [odds] at h⟩
theorem f63_eq {F : Nat} {l : List Int} (hF : 200 ≤ F) (hl : l.length ≤ 100) : f63 F l = some (!odds l) := by
  obtain ⟨z, e1, e2, e3⟩ := f85_p1_eq (F := F) hl F 0 (by omega) (by omega)
  have e1 : f85_p1 F l F 0 = some z := e1
  unfold f63 f85
  rw [e1]
  rw [List.drop_zero] at e2 e3
  cases h : odds l with
  | true => rw [e2 h]; rfl
  | false =>
    obtain ⟨j, rfl⟩ := e3 h
    simp
theorem f66_p1_eq {F : Nat} {l : List Int} (hl : l.length ≤ 100) : ∀ (k i : Nat), i ≤ l.length → l.length < k + i → f66_p1 F l k i = some (if odds (l.drop i) = true then .c1 else .c0) := by
  intro k
  induction k with
  | zero => intro i _ h; omega
  | succ k ih =>
    intro i h1 h2
    unfold f66_p1
    by_cases hi : i < l.length
    · rw [if_pos (by simp; omega), at_of (List.getElem?_eq_getElem hi), Option.bind_some, drop_cons hi]
      simp only [odds]
      by_cases h : (Int.tmod l[i] 2 == 0) = true
      · rw [if_pos h]; simp [h]
      · rw [if_neg h, show w64 ((i : Int) + 1) = ((i + 1 : Nat) : Int) by rw [w64_in (by omega)]; omega, ih (i + 1) (by omega) (by omega)]
        have h := Bool.eq_false_iff.2 h
        simp [h]
    · rw [if_neg (by simp; omega), List.drop_eq_nil_of_le (by omega)]
      rfl
theorem f66_eq {F : Nat} {l : List Int} (hF : 200 ≤ F) (hl : l.length ≤ 100) : f66 F l = some (odds l) := by
  have e := f66_p1_eq (F := F) hl F 0 (by omega) (by omega)
  unfold f66
  rw [show f66_p1 F l F 0 = _ from e, Option.bind_some, List.drop_zero]
  cases odds l <;> rfl

/- different -/
theorem f70m_eq {F : Nat} {l : List Int} (hl : l.length ≤ 100) : f70m F l = some l := by
  unfold f70m
  cases l with
  | nil => rfl
  | cons x r =>
    simp only [nilm, f70]
    rw [if_neg (by simp), req_pos (by simp at hl ⊢; omega)]
    rfl
theorem f89_p7_eq {F : Nat} {l : List Int} (hl : l.length ≤ 100) {a : Nat} (ha0 : 0 < a) (ha : a < l.length) : ∀ (k i : Nat) (w : Nat) (y : List Int), 0 < i → i + a ≤ l.length → l.length < k + i + a → w + 1 ≤ i + a → a ≤ w → y.length = l.length →
    ∃ (w' : Nat) (y' : List Int), f89_p7_1 F l a k w i y = some ((w' : Int), y') ∧ a ≤ w' ∧ w' < l.length ∧ y'.length = l.length := by
  intro k
  induction k with
  | zero => intro i w y _ _ h; omega
  | succ k ih =>
    intro i w y h0 h1 h2 h3 h4 h5
    unfold f89_p7_1
    by_cases hi : i + a < l.length
    · have g1 : y[a + i]? = some y[a + i] := List.getElem?_eq_getElem (by omega)
      have g2 : y[a + (i - 1)]? = some y[a + (i - 1)] := List.getElem?_eq_getElem (by omega)
      rw [if_pos (by simp; omega)]
      simp only [Int.toNat_natCast, Nat.zero_add, show w64 ((i : Int) - 1) = ((i - 1 : Nat) : Int) by rw [w64_in (by omega)]; omega]
      rw [req_pos (by omega), g1, Option.bind_some, req_pos (by omega), g2, Option.bind_some]
      unfold f89_p10_5
      rw [show w64 ((i : Int) + 1) = ((i + 1 : Nat) : Int) by rw [w64_in (by omega)]; omega]
      by_cases he : (y[a + i] != y[a + (i - 1)]) = true
      · simp only [Int.toNat_natCast, Nat.zero_add]
        rw [if_pos he, req_pos (by omega), g1, Option.bind_some, req_pos (by omega), req_pos (by omega), Option.bind_some]
        dsimp only
        rw [show w64 ((w : Int) + 1) = ((w + 1 : Nat) : Int) by rw [w64_in (by omega)]; omega]
        exact ih (i + 1) (w + 1) _ (by omega) (by omega) (by omega) (by omega) (by omega) (by rw [List.length_set]; exact h5)
      · rw [if_neg he, Option.bind_some]
        exact ih (i + 1) w y (by omega) (by omega) (by omega) (by omega) (by omega) h5
    · rw [if_neg (by simp; omega)]
      exact ⟨w, y, rfl, h4, by omega, h5⟩
theorem f89_p2_eq {F : Nat} (hF : 200 ≤ F) {l : List Int} (hl : l.length ≤ 100) : ∀ (k i : Nat), 0 < i → l.length < k + i →
    ∃ z, f89_p2 F (k + 1) i l = some z ∧ (adj uneq (l.drop (i - 1)) = true → z = .c1 l) ∧ (adj uneq (l.drop (i - 1)) = false → ∃ (n : Nat) (y : List Int), z = .c0 n y ∧ n < l.length) := by
  intro k
  induction k with
  | zero =>
    intro i h0 h
    unfold f89_p2
    rw [if_neg (by simp; omega)]
    exact ⟨_, rfl, fun _ => rfl, fun h2 => by rw [adj_end (by omega)] at h2; cases h2⟩
  | succ k ih =>
    intro i h0 h
    unfold f89_p2
    by_cases hi : i < l.length
    · have g1 : l[i]? = some l[i] := List.getElem?_eq_getElem hi
      have g2 : l[i - 1]? = some l[i - 1] := List.getElem?_eq_getElem (by omega)
      rw [if_pos (by simp; omega)]
      simp only [Int.toNat_natCast, Nat.zero_add, show w64 ((i : Int) - 1) = ((i - 1 : Nat) : Int) by rw [w64_in (by omega)]; omega]
      rw [req_pos (by omega), g1, Option.bind_some, req_pos (by omega), g2, Option.bind_some, adj_drop h0 hi]
      by_cases he : l[i] = l[i - 1]
      · have hu : uneq l[i - 1] l[i] = false := by simp [uneq, he]
        obtain ⟨w, y, e, w1, w2, w3⟩ := f89_p7_eq (F := F) hl h0 hi F 1 i l (by omega) (by omega) (by omega) (by omega) (by omega) rfl
        have e : f89_p7_1 F l i F i 1 l = some ((w : Int), y) := e
        rw [if_pos (by simp [he]), req_pos (by omega), e, Option.bind_some]
        simp only [Int.toNat_natCast, Nat.zero_add]
        rw [req_pos (by omega), req_pos (by omega), req_pos (by omega), hu]
        exact ⟨_, rfl, fun hh => by simp at hh, fun _ => ⟨_, _, rfl, w2⟩⟩
      · have hu : uneq l[i - 1] l[i] = true := by simp [uneq, he]
        rw [if_neg (by simp [he]), show w64 ((i : Int) + 1) = ((i + 1 : Nat) : Int) by rw [w64_in (by omega)]; omega, hu, Bool.true_and]
        have := ih (i + 1) (by omega) (by omega)
        rwa [Nat.add_sub_cancel] at this
    · rw [if_neg (by simp; omega)]
      exact ⟨_, rfl, fun _ => rfl, fun h2 => by rw [adj_end (by omega)] at h2; cases h2⟩
theorem f68_eq {F : Nat} (hF : 200 ≤ F) {l : List Int} (hl : l.length ≤ 100) : f68 F l = some (adj uneq l) := by
  unfold f68
  rw [f70m_eq hl, Option.bind_some]
  unfold f89
  by_cases h2 : l.length < 2
  · have ha : adj uneq l = true := by
      match l, h2 with
      | [], _ => rfl
      | [x], _ => rfl
    rw [if_pos (by simp; omega), ha]
    simp
  · obtain ⟨G, rfl⟩ : ∃ G, F = G + 1 := ⟨F - 1, by omega⟩
    obtain ⟨z, e1, e2, e3⟩ := f89_p2_eq hF hl G 1 (by omega) (by omega)
    have e1 : f89_p2 (G + 1) (G + 1) 1 l = some z := e1
    rw [Nat.sub_self, List.drop_zero] at e2 e3
    rw [if_neg (by simp; omega), e1]
    cases h : adj uneq l with
    | true => rw [e2 h]; simp
    | false =>
      obtain ⟨n, y, rfl, hn⟩ := e3 h
      simp; omega

/- All divisions of numbers that p lets through, each d more than the next or more. -/
def en (p : Nat → Bool) (d : Nat) : Nat → Nat → Nat → List (List Int)
  | 0, _, _ => []
  | k + 1, n, m => if n = 0 then [[]] else (List.range (min m n)).flatMap fun i => if p (i + 1) = true then (en p d k (n - (i + 1)) (i + 1 - d)).map (((i + 1 : Nat) : Int) :: ·) else []
theorem en_odd : ∀ (k m : Nat) (l : List Int), (sm l).toNat < k → chkL m l = 0 → odds l = true → l ∈ en (fun x => x % 2 == 1) 0 k (sm l).toNat m := by
  intro k
  induction k with
  | zero => intro m l h; omega
  | succ k ih =>
    intro m l hk hc ho
    have hs := chkL_sm _ _ hc
    unfold en
    cases l with
    | nil => rw [if_pos (show (sm []).toNat = 0 from rfl)]; simp
    | cons x r =>
      simp only [chkL] at hc
      split at hc
      · rename_i hx
        split at hc
        · cases hc
        · have hr := chkL_sm _ _ hc
          rw [sm_cons] at hs hk ⊢
          simp only [List.length_cons] at hs
          simp only [odds, Bool.and_eq_true] at ho
          have hodd : x.toNat % 2 = 1 := by
            have := ho.1
            rw [Int.tmod_eq_emod_of_nonneg (by omega)] at this
            simp at this
            omega
          rw [if_neg (by omega)]
          refine List.mem_flatMap.2 ⟨x.toNat - 1, List.mem_range.2 (by omega), ?_⟩
          rw [Nat.sub_add_cancel (by omega), if_pos (by simpa using hodd)]
          refine List.mem_map.2 ⟨r, ?_, by rw [Int.toNat_of_nonneg (by omega)]⟩
          rw [show (x + sm r).toNat - x.toNat = (sm r).toNat by omega, Nat.sub_zero]
          exact ih x.toNat r (by omega) (by rw [Int.toNat_of_nonneg (by omega)]; exact hc) ho.2
      · cases hc
theorem chkL_lower : ∀ (r : List Int) (x : Int), chkL x r = 0 → adj uneq (x :: r) = true → chkL (x - 1) r = 0 := by
  intro r x h ha
  cases r with
  | nil => rfl
  | cons y s =>
    simp only [adj, uneq, Bool.and_eq_true] at ha
    simp only [chkL] at h ⊢
    split at h
    · rename_i hy
      rw [if_pos hy]
      split at h
      · cases h
      · have := ha.1
        simp at this
        rw [if_neg (by omega)]; exact h
    · cases h
theorem adj_tail {p : Int → Int → Bool} {x : Int} {r : List Int} (h : adj p (x :: r) = true) : adj p r = true := by
  cases r with
  | nil => rfl
  | cons y s => simp only [adj, Bool.and_eq_true] at h; exact h.2
theorem en_dif : ∀ (k m : Nat) (l : List Int), (sm l).toNat < k → chkL m l = 0 → adj uneq l = true → l ∈ en (fun _ => true) 1 k (sm l).toNat m := by
  intro k
  induction k with
  | zero => intro m l h; omega
  | succ k ih =>
    intro m l hk hc ho
    have hs := chkL_sm _ _ hc
    unfold en
    cases l with
    | nil => rw [if_pos (show (sm []).toNat = 0 from rfl)]; simp
    | cons x r =>
      simp only [chkL] at hc
      split at hc
      · rename_i hx
        split at hc
        · cases hc
        · have hr := chkL_sm _ _ hc
          rw [sm_cons] at hs hk ⊢
          simp only [List.length_cons] at hs
          rw [if_neg (by omega)]
          refine List.mem_flatMap.2 ⟨x.toNat - 1, List.mem_range.2 (by omega), ?_⟩
          rw [Nat.sub_add_cancel (by omega), if_pos rfl]
          refine List.mem_map.2 ⟨r, ?_, by rw [Int.toNat_of_nonneg (by omega)]⟩
          rw [show (x + sm r).toNat - x.toNat = (sm r).toNat by omega]
          have h1 := chkL_lower r x hc ho
          exact ih (x.toNat - 1) r (by omega) (by rw [show ((x.toNat - 1 : Nat) : Int) = x - 1 by omega]; exact h1) (adj_tail ho)
      · cases hc
/-- A number comes to a list that is kept from its end. -/
def ins : List Int → Int → List Int
  | [], x => [x]
  | y :: rp, x => if x > y then y :: ins rp x else x :: y :: rp
def srt (l : List Int) : List Int := (l.foldl ins []).reverse
theorem ins_len : ∀ (rp : List Int) (x : Int), (ins rp x).length = rp.length + 1
  | [], _ => rfl
  | y :: rp, x => by
    unfold ins
    split
    · simp [ins_len rp x]
    · rfl
theorem fold_len : ∀ (l rp : List Int), (l.foldl ins rp).length = rp.length + l.length
  | [], _ => rfl
  | x :: l, rp => by
    rw [List.foldl_cons, fold_len l, ins_len, List.length_cons]; omega
theorem srt_len (l : List Int) : (srt l).length = l.length := by
  unfold srt; rw [List.length_reverse, fold_len]; simp
theorem f88_p5_eq {F : Nat} {l : List Int} {z : Int} (hl : l.length ≤ 1000) : ∀ (rp s : List Int) (x : Int) (k : Nat), rp.length < k → rp.length + s.length + 1 = l.length → f88_p5_2 F l z k rp.length (rp.reverse ++ x :: s) = some ((ins rp x).reverse ++ s) := by
  intro rp
  induction rp with
  | nil =>
    intro s x k hk h
    obtain ⟨k, rfl⟩ : ∃ k', k = k' + 1 := ⟨k - 1, by omega⟩
    unfold f88_p5_2
    rw [if_neg (by decide)]
    rfl
  | cons y rp ih =>
    intro s x k hk h
    simp only [List.length_cons] at hk h
    obtain ⟨k, rfl⟩ : ∃ k', k = k' + 1 := ⟨k - 1, by omega⟩
    unfold f88_p5_2
    have w1 : w64 (((y :: rp).length : Nat) - 1 : Int) = (rp.length : Nat) := by rw [List.length_cons, w64_in (by omega)]; omega
    have eo : (y :: rp).reverse ++ x :: s = rp.reverse ++ y :: x :: s := by simp
    have g1 : (rp.reverse ++ y :: x :: s)[rp.length + 1]? = some x := by
      rw [List.getElem?_append_right (by simp)]; simp
    have g2 : (rp.reverse ++ y :: x :: s)[rp.length]? = some y := by
      rw [List.getElem?_append_right (by simp)]; simp
    rw [if_pos (by simp <;> omega), w1, eo]
    simp only [Int.toNat_natCast, Nat.zero_add, List.length_cons]
    rw [req_pos (by simp <;> omega), g1, Option.bind_some, req_pos (by simp <;> omega), g2, Option.bind_some, ins]
    by_cases hxy : x > y
    · have s1 : ((rp.reverse ++ y :: x :: s).set (rp.length + 1) y).set rp.length x = rp.reverse ++ x :: y :: s := by
        rw [List.set_append_right _ _ (by simp), List.set_append_right _ _ (by simp)]; simp
      rw [if_pos (by simpa using hxy), if_pos hxy, req_pos (by simp), req_pos (by simp <;> omega), s1]
      rw [ih (y :: s) x k (by omega) (by simp only [List.length_cons]; omega)]
      simp
    · rw [if_neg (by simpa using hxy), if_neg hxy]
      simp
theorem f88_p1_eq {F : Nat} {l : List Int} (hF : 1100 ≤ F) (hl : l.length ≤ 1000) : ∀ (k : Nat) (rp s : List Int), rp.length + s.length = l.length → s.length < k → f88_p1 F l k rp.length (rp.reverse ++ s) = some (s.foldl ins rp).reverse := by
  intro k
  induction k with
  | zero => intro _ s _ h; omega
  | succ k ih =>
    intro rp s h1 h2
    unfold f88_p1
    cases s with
    | nil =>
      simp only [List.length_nil] at h1
      rw [if_neg (by simp; omega)]
      simp
    | cons x s =>
      simp only [List.length_cons] at h1 h2
      rw [if_pos (by simp; omega), f88_p5_eq hl rp s x F (by omega) (by omega), Option.bind_some, show w64 ((rp.length : Int) + 1) = ((ins rp x).length : Nat) by rw [ins_len, w64_in (by omega)]; omega]
      rw [ih (ins rp x) s (by rw [ins_len]; omega) (by omega), List.foldl_cons]
theorem f88_eq {F : Nat} {l : List Int} (hF : 1100 ≤ F) (hl : l.length ≤ 1000) : f88 F l = some (l.length, srt l) := by
  have e := f88_p1_eq hF hl F [] l (by simp) (by omega)
  have e : f88_p1 F l F 0 l = some (l.foldl ins []).reverse := e
  unfold f88
  rw [req_pos (by simp; omega), List.nil_append, e]
  rfl
/-- Two equal numbers become one, as long as there are any. -/
def stp (l : List Int) : Nat → Nat → Option (List Int)
  | 0, _ => none
  | k + 1, i => match l[i]?, l[i - 1]? with
    | some a, some b => if a == b then some (srt (l.take (i - 1) ++ l.drop (i + 1) ++ [2 * a])) else stp l k (i + 1)
    | _, _ => none
def dbl : Nat → List Int → List Int
  | 0, l => l
  | k + 1, l => match stp l l.length 1 with
    | some r => dbl k r
    | none => l
theorem f67_p1_eq {l : List Int} {rec : List Int → Option (List Int)} (hl : l.length ≤ 100) (hx : ∀ x ∈ l, 1 ≤ x ∧ x ≤ 2305843009213693952) : ∀ (k i q : Nat), 0 < i → l.length ≤ k + i → l.length < q + i → 0 < q →
    f67_p1 2000 rec l q i = (match stp l k i with | some r => Option.bind (rec r) fun x => some (.c0 x) | none => some .c1) := by
  intro k
  induction k with
  | zero =>
    intro i q h0 h1 h2 h3
    obtain ⟨q, rfl⟩ : ∃ q', q = q' + 1 := ⟨q - 1, by omega⟩
    unfold f67_p1
    rw [if_neg (by simp; omega)]
    rfl
  | succ k ih =>
    intro i q h0 h1 h2 h3
    by_cases hi : i < l.length
    · obtain ⟨q, rfl⟩ : ∃ q', q = q' + 1 := ⟨q - 1, by omega⟩
      have g1 : l[i]? = some l[i] := List.getElem?_eq_getElem hi
      have g2 : l[i - 1]? = some l[i - 1] := List.getElem?_eq_getElem (by omega)
      have hb := hx _ (List.getElem_mem hi)
      unfold f67_p1 stp
      rw [if_pos (by simp; omega), at_of g1, Option.bind_some]
      rw [show w64 ((i : Int) - 1) = ((i - 1 : Nat) : Int) by rw [w64_in (by omega)]; omega, at_of g2, Option.bind_some, g1, g2]
      rw [show w64 ((i : Int) + 1) = ((i + 1 : Nat) : Int) by rw [w64_in (by omega)]; omega]
      dsimp only
      by_cases he : (l[i] == l[i - 1]) = true
      · rw [if_pos he, if_pos he]
        simp only [Int.toNat_natCast, List.nil_append, List.drop_zero, List.take_length]
        have hlen : (l.take (i - 1) ++ l.drop (i + 1) ++ [2 * l[i]]).length ≤ 1000 := by simp; omega
        rw [w64_in (n := 2 * l[i]) (by omega), req_pos (by omega), req_pos (by simp; omega), req_pos (by omega), req_pos (by simp; omega), req_pos (by simp; omega), Nat.zero_add, List.take_length, f88_eq (by omega) hlen, Option.bind_some]
        dsimp only
        rw [← srt_len, Nat.zero_add, List.take_length]
        congr 1
        funext x
        rw [req_pos (Nat.le_refl _)]
      · rw [if_neg he, if_neg he]
        exact ih (i + 1) q (by omega) (by omega) (by omega) (by omega)
    · obtain ⟨q, rfl⟩ : ∃ q', q = q' + 1 := ⟨q - 1, by omega⟩
      unfold f67_p1 stp
      rw [if_neg (by simp; omega), List.getElem?_eq_none (by omega)]
theorem ins_mem : ∀ (rp : List Int) (x z : Int), z ∈ ins rp x → z = x ∨ z ∈ rp
  | [], x, z, h => by simp [ins] at h; exact .inl h
  | y :: rp, x, z, h => by
    unfold ins at h
    split at h
    · rcases List.mem_cons.1 h with rfl | h
      · exact .inr (by simp)
      · rcases ins_mem rp x z h with h | h
        · exact .inl h
        · exact .inr (by simp [h])
    · rcases List.mem_cons.1 h with h | h
      · exact .inl h
      · exact .inr h
theorem fold_mem : ∀ (l rp : List Int) (z : Int), z ∈ l.foldl ins rp → z ∈ rp ∨ z ∈ l
  | [], rp, z, h => .inl h
  | x :: l, rp, z, h => by
    rcases fold_mem l _ z h with h | h
    · rcases ins_mem _ _ _ h with rfl | h
      · exact .inr (by simp)
      · exact .inl h
    · exact .inr (by simp [h])
theorem srt_mem {l : List Int} {z : Int} (h : z ∈ srt l) : z ∈ l := by
  unfold srt at h
  rcases fold_mem _ _ _ (List.mem_reverse.1 h) with h | h
  · cases h
  · exact h
theorem stp_some {l : List Int} : ∀ (k i : Nat) (r : List Int), 0 < i → stp l k i = some r → r.length + 1 = l.length ∧ ∀ z ∈ r, z ∈ l ∨ ∃ a ∈ l, z = 2 * a := by
  intro k
  induction k with
  | zero => intro i r _ h; cases h
  | succ k ih =>
    intro i r h0 h
    unfold stp at h
    split at h
    · rename_i a b g1 g2
      split at h
      · cases h
        have hi := (List.getElem?_eq_some_iff.1 g1).1
        refine ⟨by rw [srt_len]; simp; omega, fun z hz => ?_⟩
        have hz := srt_mem hz
        rcases List.mem_append.1 hz with hz | hz
        · rcases List.mem_append.1 hz with hz | hz
          · exact .inl (List.mem_of_mem_take hz)
          · exact .inl (List.mem_of_mem_drop hz)
        · simp at hz
          exact .inr ⟨a, List.mem_of_getElem? g1, hz⟩
      · exact ih (i + 1) r (by omega) h
    · cases h
theorem f67_eq : ∀ (k : Nat) (l : List Int) (b : Nat), l.length < k → l.length ≤ 100 → (∀ x ∈ l, 1 ≤ x ∧ x ≤ b) → b * 2 ^ l.length ≤ 2305843009213693952 → f67 2000 k l = some (dbl k l) := by
  intro k
  induction k with
  | zero => intro l b h; omega
  | succ k ih =>
    intro l b hk hl hx hb
    have hb1 : b ≤ 2305843009213693952 := Nat.le_trans (Nat.le_mul_of_pos_right b (Nat.two_pow_pos _)) hb
    have e := f67_p1_eq (rec := f67 2000 k) hl (fun x h => ⟨(hx x h).1, by have := (hx x h).2; omega⟩) l.length 1 2000 (by omega) (by omega) (by omega) (by omega)
    have e : f67_p1 2000 (f67 2000 k) l 2000 1 = _ := e
    simp only [f67, f67_b, dbl]
    rw [e]
    cases hs : stp l l.length 1 with
    | none =>
      dsimp only
      rw [Option.bind_some, req_pos (by simp; omega), List.nil_append, take0]
    | some r =>
      obtain ⟨r1, r2⟩ := stp_some _ _ _ (by omega) hs
      dsimp only
      have m1 : ∀ z ∈ r, 1 ≤ z ∧ z ≤ ((2 * b : Nat) : Int) := by
        intro z hz
        rcases r2 z hz with h | ⟨a, h, rfl⟩
        · have := hx z h; omega
        · have := hx a h; omega
      have m2 : 2 * b * 2 ^ r.length ≤ 2305843009213693952 := by
        rw [← r1, Nat.pow_succ] at hb
        rw [Nat.mul_comm 2 b, Nat.mul_assoc, Nat.mul_comm 2]; exact hb
      rw [ih r (2 * b) (by omega) (by omega) m1 m2]
      rfl

end Go.Gh.Bunch
