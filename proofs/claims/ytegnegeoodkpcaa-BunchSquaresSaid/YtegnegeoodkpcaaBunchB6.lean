/- What is needed of the plain texts. -/
import Derived.Test.YtegnegeoodkpcaaBunch6N0
namespace Go.Gh.Bunch
set_option linter.unusedVariables false
set_option linter.unusedSimpArgs false

theorem w64_in {n : Int} (h : -9223372036854775808 ≤ n ∧ n < 9223372036854775808) : w64 n = n := by
  unfold w64 IntKind.wrap
  simp [IntKind.bits, IntKind.signed]
  split <;> omega
theorem at_of {α : Type} {l : List α} {i : Nat} {x : α} (h : l[i]? = some x) : at? l ((i : Nat) : Int) = some x := by
  unfold at?; simp [h]
theorem req_pos {α : Type} {p : Prop} [Decidable p] {x : Option α} (h : p) : req p x = x := by unfold req; rw [if_pos h]
theorem take0 {α : Type} (l : List α) : List.drop 0 (List.take (0 + l.length) l) = l := by simp
/-- How many divisions of n there are without a number greater than m. -/
def ctab : List (List Int) := [
  [1, 1, 1, 1, 1, 1, 1, 1, 1, 1, 1, 1, 1, 1, 1, 1, 1, 1, 1, 1, 1, 1, 1, 1, 1, 1, 1, 1, 1, 1, 1],
  [0, 1, 1, 1, 1, 1, 1, 1, 1, 1, 1, 1, 1, 1, 1, 1, 1, 1, 1, 1, 1, 1, 1, 1, 1, 1, 1, 1, 1, 1, 1],
  [0, 1, 2, 2, 2, 2, 2, 2, 2, 2, 2, 2, 2, 2, 2, 2, 2, 2, 2, 2, 2, 2, 2, 2, 2, 2, 2, 2, 2, 2, 2],
  [0, 1, 2, 3, 3, 3, 3, 3, 3, 3, 3, 3, 3, 3, 3, 3, 3, 3, 3, 3, 3, 3, 3, 3, 3, 3, 3, 3, 3, 3, 3],
  [0, 1, 3, 4, 5, 5, 5, 5, 5, 5, 5, 5, 5, 5, 5, 5, 5, 5, 5, 5, 5, 5, 5, 5, 5, 5, 5, 5, 5, 5, 5],
  [0, 1, 3, 5, 6, 7, 7, 7, 7, 7, 7, 7, 7, 7, 7, 7, 7, 7, 7, 7, 7, 7, 7, 7, 7, 7, 7, 7, 7, 7, 7],
  [0, 1, 4, 7, 9, 10, 11, 11, 11, 11, 11, 11, 11, 11, 11, 11, 11, 11, 11, 11, 11, 11, 11, 11, 11, 11, 11, 11, 11, 11, 11],
  [0, 1, 4, 8, 11, 13, 14, 15, 15, 15, 15, 15, 15, 15, 15, 15, 15, 15, 15, 15, 15, 15, 15, 15, 15, 15, 15, 15, 15, 15, 15],
  [0, 1, 5, 10, 15, 18, 20, 21, 22, 22, 22, 22, 22, 22, 22, 22, 22, 22, 22, 22, 22, 22, 22, 22, 22, 22, 22, 22, 22, 22, 22],
  [0, 1, 5, 12, 18, 23, 26, 28, 29, 30, 30, 30, 30, 30, 30, 30, 30, 30, 30, 30, 30, 30, 30, 30, 30, 30, 30, 30, 30, 30, 30],
  [0, 1, 6, 14, 23, 30, 35, 38, 40, 41, 42, 42, 42, 42, 42, 42, 42, 42, 42, 42, 42, 42, 42, 42, 42, 42, 42, 42, 42, 42, 42],
  [0, 1, 6, 16, 27, 37, 44, 49, 52, 54, 55, 56, 56, 56, 56, 56, 56, 56, 56, 56, 56, 56, 56, 56, 56, 56, 56, 56, 56, 56, 56],
  [0, 1, 7, 19, 34, 47, 58, 65, 70, 73, 75, 76, 77, 77, 77, 77, 77, 77, 77, 77, 77, 77, 77, 77, 77, 77, 77, 77, 77, 77, 77],
  [0, 1, 7, 21, 39, 57, 71, 82, 89, 94, 97, 99, 100, 101, 101, 101, 101, 101, 101, 101, 101, 101, 101, 101, 101, 101, 101, 101, 101, 101, 101],
  [0, 1, 8, 24, 47, 70, 90, 105, 116, 123, 128, 131, 133, 134, 135, 135, 135, 135, 135, 135, 135, 135, 135, 135, 135, 135, 135, 135, 135, 135, 135],
  [0, 1, 8, 27, 54, 84, 110, 131, 146, 157, 164, 169, 172, 174, 175, 176, 176, 176, 176, 176, 176, 176, 176, 176, 176, 176, 176, 176, 176, 176, 176],
  [0, 1, 9, 30, 64, 101, 136, 164, 186, 201, 212, 219, 224, 227, 229, 230, 231, 231, 231, 231, 231, 231, 231, 231, 231, 231, 231, 231, 231, 231, 231],
  [0, 1, 9, 33, 72, 119, 163, 201, 230, 252, 267, 278, 285, 290, 293, 295, 296, 297, 297, 297, 297, 297, 297, 297, 297, 297, 297, 297, 297, 297, 297],
  [0, 1, 10, 37, 84, 141, 199, 248, 288, 318, 340, 355, 366, 373, 378, 381, 383, 384, 385, 385, 385, 385, 385, 385, 385, 385, 385, 385, 385, 385, 385],
  [0, 1, 10, 40, 94, 164, 235, 300, 352, 393, 423, 445, 460, 471, 478, 483, 486, 488, 489, 490, 490, 490, 490, 490, 490, 490, 490, 490, 490, 490, 490],
  [0, 1, 11, 44, 108, 192, 282, 364, 434, 488, 530, 560, 582, 597, 608, 615, 620, 623, 625, 626, 627, 627, 627, 627, 627, 627, 627, 627, 627, 627, 627],
  [0, 1, 11, 48, 120, 221, 331, 436, 525, 598, 653, 695, 725, 747, 762, 773, 780, 785, 788, 790, 791, 792, 792, 792, 792, 792, 792, 792, 792, 792, 792],
  [0, 1, 12, 52, 136, 255, 391, 522, 638, 732, 807, 863, 905, 935, 957, 972, 983, 990, 995, 998, 1000, 1001, 1002, 1002, 1002, 1002, 1002, 1002, 1002, 1002, 1002],
  [0, 1, 12, 56, 150, 291, 454, 618, 764, 887, 984, 1060, 1116, 1158, 1188, 1210, 1225, 1236, 1243, 1248, 1251, 1253, 1254, 1255, 1255, 1255, 1255, 1255, 1255, 1255, 1255],
  [0, 1, 13, 61, 169, 333, 532, 733, 919, 1076, 1204, 1303, 1380, 1436, 1478, 1508, 1530, 1545, 1556, 1563, 1568, 1571, 1573, 1574, 1575, 1575, 1575, 1575, 1575, 1575, 1575],
  [0, 1, 13, 65, 185, 377, 612, 860, 1090, 1291, 1455, 1586, 1686, 1763, 1819, 1861, 1891, 1913, 1928, 1939, 1946, 1951, 1954, 1956, 1957, 1958, 1958, 1958, 1958, 1958, 1958],
  [0, 1, 14, 70, 206, 427, 709, 1009, 1297, 1549, 1761, 1930, 2063, 2164, 2241, 2297, 2339, 2369, 2391, 2406, 2417, 2424, 2429, 2432, 2434, 2435, 2436, 2436, 2436, 2436, 2436],
  [0, 1, 14, 75, 225, 480, 811, 1175, 1527, 1845, 2112, 2331, 2503, 2637, 2738, 2815, 2871, 2913, 2943, 2965, 2980, 2991, 2998, 3003, 3006, 3008, 3009, 3010, 3010, 3010, 3010],
  [0, 1, 15, 80, 249, 540, 931, 1367, 1801, 2194, 2534, 2812, 3036, 3210, 3345, 3446, 3523, 3579, 3621, 3651, 3673, 3688, 3699, 3706, 3711, 3714, 3716, 3717, 3718, 3718, 3718],
  [0, 1, 15, 85, 270, 603, 1057, 1579, 2104, 2592, 3015, 3370, 3655, 3882, 4057, 4192, 4293, 4370, 4426, 4468, 4498, 4520, 4535, 4546, 4553, 4558, 4561, 4563, 4564, 4565, 4565],
  [0, 1, 16, 91, 297, 674, 1206, 1824, 2462, 3060, 3590, 4035, 4401, 4691, 4920, 5096, 5231, 5332, 5409, 5465, 5507, 5537, 5559, 5574, 5585, 5592, 5597, 5600, 5602, 5603, 5604]]
def c (n m : Nat) : Int := ((ctab[n]?.getD [])[m]?.getD 0)
def cLook : Bool := (List.range 31).all fun n => (List.range 31).all fun m => decide (0 ≤ c n m ∧ c n m ≤ 10000) &&
  (if n = 0 then c n m == 1 else if m = 0 then c n m == 0 else if n < m then c n m == c n (m - 1) && c n m == c n n else c n m == c n (m - 1) + c (n - m) m)
theorem cLook_true : cLook = true := by decide +kernel
theorem c_look {n m : Nat} (hn : n ≤ 30) (hm : m ≤ 30) : (0 ≤ c n m ∧ c n m ≤ 10000) ∧ (n = 0 → c n m = 1) ∧ (0 < n → m = 0 → c n m = 0) ∧ (0 < n → n < m → c n m = c n (m - 1) ∧ c n m = c n n) ∧ (0 < m → m ≤ n → c n m = c n (m - 1) + c (n - m) m) := by
  have h := cLook_true
  simp only [cLook, List.all_eq_true, List.mem_range, Bool.and_eq_true, decide_eq_true_eq] at h
  obtain ⟨h1, h2⟩ := h n (by omega) m (by omega)
  refine ⟨h1, fun h0 => ?_, fun h0 h3 => ?_, fun h0 h3 => ?_, fun h0 h3 => ?_⟩
  · rw [if_pos h0] at h2; exact eq_of_beq h2
  · rw [if_neg (by omega), if_pos h3] at h2; exact eq_of_beq h2
  · rw [if_neg (by omega), if_neg (by omega), if_pos h3, Bool.and_eq_true] at h2; exact ⟨eq_of_beq h2.1, eq_of_beq h2.2⟩
  · rw [if_neg (by omega), if_neg (by omega), if_neg (by omega)] at h2; exact eq_of_beq h2
theorem c_min {n m : Nat} (hn : n ≤ 30) (hm : m ≤ 30) : c n m = c n (min n m) := by
  by_cases h : n < m
  · rw [Nat.min_eq_left (by omega)]
    by_cases h0 : n = 0
    · subst h0; rw [(c_look hn hm).2.1 rfl, (c_look (n := 0) (m := 0) (by omega) (by omega)).2.1 rfl]
    · exact ((c_look hn hm).2.2.2.1 (by omega) h).2
  · rw [Nat.min_eq_right (by omega)]
theorem f57_eq {F : Nat} {x a b : Int} : f57 F x a b = some (decide (a ≤ x ∧ x ≤ b)) := by
  unfold f57
  by_cases h : a ≤ x <;> simp [h]
theorem works : f19 100 = some true := by decide +kernel
def al : Nat → Nat → Nat → List (List Int)
  | 0, _, _ => []
  | k + 1, n, m => if n = 0 then [[]] else (List.range (min m n)).flatMap fun i => (al k (n - (i + 1)) (i + 1)).map (((i + 1 : Nat) : Int) :: ·)
theorem al_len : ∀ (k n m : Nat), n < k → n ≤ 30 → m ≤ 30 → (((al k n m).length : Nat) : Int) = c n m := by
  intro k
  induction k with
  | zero => intro n m h; omega
  | succ k ih =>
    intro n m hk hn hm
    unfold al
    by_cases h0 : n = 0
    · rw [if_pos h0, h0, (c_look (n := 0) (by omega) hm).2.1 rfl]; rfl
    · rw [if_neg h0]
      have key : ∀ p, p ≤ n → ((((List.range p).flatMap fun i => (al k (n - (i + 1)) (i + 1)).map (((i + 1 : Nat) : Int) :: ·)).length : Nat) : Int) = c n p := by
        intro p
        induction p with
        | zero => intro _; rw [(c_look hn (m := 0) (by omega)).2.2.1 (by omega) rfl]; rfl
        | succ p ihp =>
          intro hp
          rw [List.range_succ, List.flatMap_append, List.length_append, Int.natCast_add, ihp (by omega)]
          rw [(c_look hn (m := p + 1) (by omega)).2.2.2.2 (by omega) hp]
          simp only [List.flatMap_cons, List.flatMap_nil, List.append_nil, List.length_map]
          rw [ih (n - (p + 1)) (p + 1) (by omega) (by omega) (by omega), Nat.add_sub_cancel]
      rw [c_min hn hm, Nat.min_comm n m]
      exact key _ (Nat.min_le_right _ _)
theorem al_each : ∀ (k n m : Nat), ∀ l ∈ al k n m, l.length ≤ n := by
  intro k
  induction k with
  | zero => intro n m l h; cases h
  | succ k ih =>
    intro n m l h
    unfold al at h
    by_cases h0 : n = 0
    · rw [if_pos h0] at h
      simp at h; subst h; simp
    · rw [if_neg h0] at h
      obtain ⟨i, hi, h⟩ := List.mem_flatMap.1 h
      obtain ⟨t, ht, rfl⟩ := List.mem_map.1 h
      have := ih _ _ t ht
      have hi := List.mem_range.1 hi
      simp only [List.length_cons]
      omega
theorem c22 {n m : Nat} (hn : n ≤ 22) (hm : m ≤ 30) : c n m ≤ 1002 := by
  have h : ((List.range 23).all fun n => (List.range 31).all fun m => decide (c n m ≤ 1002)) = true := by decide +kernel
  simp only [List.all_eq_true, List.mem_range, decide_eq_true_eq] at h
  exact h n (by omega) m (by omega)
theorem al_small {k n m : Nat} (hk : n < k) (hn : n ≤ 22) (hm : m ≤ 30) : (al k n m).length ≤ 1002 := by
  have := al_len k n m hk (by omega) hm
  have := c22 hn hm
  omega
theorem drop_cons {α : Type} {l : List α} {i : Nat} (h : i < l.length) : l.drop i = l[i] :: l.drop (i + 1) := List.drop_eq_getElem_cons h
theorem range_drop {p j : Nat} (h0 : 0 < j) (h : j ≤ p) : (List.range p).drop (j - 1) = (j - 1) :: (List.range p).drop j := by
  rw [drop_cons (by simp; omega), List.getElem_range, Nat.sub_add_cancel h0]
theorem f59_p6_eq {F : Nat} {a b x : Int} {R : List (List Int)} (hR : ∀ l ∈ R, l.length ≤ 30) (hl : R.length ≤ 5000) : ∀ (k i : Nat) (acc : List (List Int)), i ≤ R.length → R.length < k + i → acc.length + (R.length - i) ≤ 100000 →
    f59_p6_1 F a b x R k i acc = some (acc ++ (R.drop i).map (x :: ·)) := by
  intro k
  induction k with
  | zero => intro i acc _ h; omega
  | succ k ih =>
    intro i acc h1 h2 h3
    unfold f59_p6_1
    by_cases hi : i < R.length
    · have := hR R[i] (List.getElem_mem hi)
      rw [if_pos (by simp; omega), at_of (List.getElem?_eq_getElem hi), Option.bind_some, req_pos (by simp; omega), req_pos (by simp; omega)]
      rw [show w64 ((i : Int) + 1) = ((i + 1 : Nat) : Int) by rw [w64_in (by omega)]; omega, ih (i + 1) _ (by omega) (by omega) (by simp; omega)]
      rw [drop_cons hi]
      simp only [List.map_cons, List.append_assoc, List.cons_append, List.nil_append]
    · rw [if_neg (by simp; omega), List.drop_eq_nil_of_le (by omega)]
      simp
theorem f59_eq {F : Nat} (hF : 1100 ≤ F) : ∀ (k n m : Nat), n < k → n ≤ 22 → m ≤ 30 → f59 F k n m = some (al k n m) := by
  intro k
  induction k with
  | zero => intro n m h; omega
  | succ k ih =>
    intro n m hk hn hm
    simp only [f59, f59_b, al]
    by_cases h0 : n = 0
    · rw [if_pos h0, if_pos (by simp; omega)]
    · rw [if_neg h0, if_neg (by simp; omega)]
      have hlen := al_small (k := k + 1) (n := n) (m := m) hk hn hm
      unfold al at hlen
      rw [if_neg h0] at hlen
      generalize hG : (fun i : Nat => (al k (n - (i + 1)) (i + 1)).map (((i + 1 : Nat) : Int) :: ·)) = G at *
      have loop : ∀ (q j : Nat) (acc : List (List Int)), 0 < j → j ≤ min m n + 1 → min m n + 1 < q + j → acc.length + (((List.range (min m n)).drop (j - 1)).flatMap G).length ≤ 2000 →
          f59_p2 F (f59 F k) n m q j acc = some (acc ++ ((List.range (min m n)).drop (j - 1)).flatMap G) := by
        intro q
        induction q with
        | zero => intro j acc _ _ h; omega
        | succ q ihq =>
          intro j acc hj0 hj1 hj2 hacc
          unfold f59_p2
          by_cases hj : j ≤ min m n
          · rw [if_pos (by simp; omega), if_pos (by simp; omega)]
            have w1 : w64 ((n : Int) - (j : Int)) = ((n - j : Nat) : Int) := by rw [w64_in (by omega)]; omega
            have w2 : w64 ((j : Int) + 1) = ((j + 1 : Nat) : Int) := by rw [w64_in (by omega)]; omega
            have hA := al_small (k := k) (n := n - j) (m := j) (by omega) (by omega) (by omega)
            rw [range_drop hj0 hj, List.flatMap_cons, List.length_append] at hacc
            have hGj : G (j - 1) = (al k (n - j) j).map ((j : Int) :: ·) := by rw [← hG]; simp only [Nat.sub_add_cancel hj0]
            have hGl : (G (j - 1)).length = (al k (n - j) j).length := by rw [hGj, List.length_map]
            rw [w1, ih (n - j) j (by omega) (by omega) (by omega), Option.bind_some, show (0 : Int) = ((0 : Nat) : Int) from rfl, f59_p6_eq (fun l hl => Nat.le_trans (al_each _ _ _ l hl) (by omega)) (by omega) F 0 acc (by omega) (by omega) (by omega), Option.bind_some, w2]
            rw [ihq (j + 1) _ (by omega) (by omega) (by omega) (by rw [Nat.add_sub_cancel]; simp only [List.drop_zero, List.length_append, List.length_map]; omega)]
            rw [range_drop hj0 hj, List.flatMap_cons, hGj]
            simp
          · have e : (List.range (min m n)).drop (j - 1) = [] := List.drop_eq_nil_of_le (by simp; omega)
            rw [e]
            by_cases h1 : j ≤ m
            · rw [if_pos (by simp; omega), if_neg (by simp; omega)]; simp
            · rw [if_neg (by simp; omega)]; simp
      rw [show (1 : Int) = ((1 : Nat) : Int) from rfl, loop F 1 [] (by omega) (by omega) (by omega) (by simp; simpa using Nat.le_trans hlen (by omega)), Option.bind_some, take0]
      simp
theorem fm_get {α : Type} {G : Nat → List α} : ∀ (p j : Nat) (l : α), ((List.range p).flatMap G)[j]? = some l → ∃ i j', i < p ∧ (G i)[j']? = some l ∧ j = ((List.range i).flatMap G).length + j' := by
  intro p
  induction p with
  | zero => intro j l h; simp at h
  | succ p ih =>
    intro j l h
    rw [List.range_succ, List.flatMap_append] at h
    by_cases hj : j < ((List.range p).flatMap G).length
    · rw [List.getElem?_append_left hj] at h
      obtain ⟨i, j', h1, h2, h3⟩ := ih j l h
      exact ⟨i, j', by omega, h2, h3⟩
    · rw [List.getElem?_append_right (by omega)] at h
      simp only [List.flatMap_cons, List.flatMap_nil, List.append_nil] at h
      exact ⟨p, _, by omega, h, by omega⟩
theorem fm_get_of {α : Type} {G : Nat → List α} : ∀ (p i j' : Nat) (l : α), i < p → (G i)[j']? = some l → ((List.range p).flatMap G)[((List.range i).flatMap G).length + j']? = some l := by
  intro p
  induction p with
  | zero => intro i j' l h; omega
  | succ p ih =>
    intro i j' l hi h
    rw [List.range_succ, List.flatMap_append]
    by_cases hp : i < p
    · have h2 := ih i j' l hp h
      have hlt := (List.getElem?_eq_some_iff.1 h2).1
      rw [List.getElem?_append_left hlt]; exact h2
    · have : i = p := by omega
      subst this
      rw [List.getElem?_append_right (by omega), Nat.add_sub_cancel_left]
      simpa using h
def alG (k n : Nat) (i : Nat) : List (List Int) := (al k (n - (i + 1)) (i + 1)).map (((i + 1 : Nat) : Int) :: ·)
theorem al_succ (k n m : Nat) : al (k + 1) n m = if n = 0 then [[]] else (List.range (min m n)).flatMap (alG k n) := rfl
theorem alG_len {k n : Nat} (hk : n ≤ k) (hn : n ≤ 30) (h0 : 0 < n) : ∀ p, p ≤ n → ((((List.range p).flatMap (alG k n)).length : Nat) : Int) = c n p := by
  intro p
  induction p with
  | zero => intro _; rw [(c_look hn (m := 0) (by omega)).2.2.1 (by omega) rfl]; rfl
  | succ p ihp =>
    intro hp
    rw [List.range_succ, List.flatMap_append, List.length_append, Int.natCast_add, ihp (by omega)]
    rw [(c_look hn (m := p + 1) (by omega)).2.2.2.2 (by omega) hp]
    simp only [List.flatMap_cons, List.flatMap_nil, List.append_nil, alG, List.length_map]
    rw [al_len k (n - (p + 1)) (p + 1) (by omega) (by omega) (by omega), Nat.add_sub_cancel]
/-- A division of n without a number greater than m. -/
def Val : Nat → Nat → List Int → Prop
  | _, n, [] => n = 0
  | m, n, x :: r => 1 ≤ x ∧ x ≤ m ∧ x ≤ n ∧ Val x.toNat (n - x.toNat) r
/-- The number of a division. -/
def idx : Nat → List Int → Int
  | _, [] => 0
  | n, x :: r => c n (x.toNat - 1) + idx (n - x.toNat) r
theorem al_idx : ∀ (k n m j : Nat) (l : List Int), n < k → n ≤ 30 → (al k n m)[j]? = some l → (j : Int) = idx n l ∧ Val m n l := by
  intro k
  induction k with
  | zero => intro n m j l h; omega
  | succ k ih =>
    intro n m j l hk hn h
    rw [al_succ] at h
    by_cases h0 : n = 0
    · rw [if_pos h0] at h
      match j, h with
      | 0, h => simp at h; subst h; exact ⟨rfl, h0⟩
      | j + 1, h => simp at h
    · rw [if_neg h0] at h
      obtain ⟨i, j', hi, hg, hj⟩ := fm_get _ _ _ h
      unfold alG at hg
      rw [List.getElem?_map] at hg
      obtain ⟨t, ht, hl⟩ := Option.map_eq_some_iff.1 hg
      subst hl
      obtain ⟨e1, e2⟩ := ih (n - (i + 1)) (i + 1) j' t (by omega) (by omega) ht
      have e3 := alG_len (k := k) (n := n) (by omega) hn (by omega) i (by omega)
      refine ⟨?_, by omega, by omega, by omega, ?_⟩
      · simp only [idx, Int.toNat_natCast, Nat.add_sub_cancel]
        rw [hj, Int.natCast_add, e3, e1]
      · simpa using e2
theorem al_has : ∀ (k n m : Nat) (l : List Int), n < k → Val m n l → ∃ j : Nat, (al k n m)[j]? = some l := by
  intro k
  induction k with
  | zero => intro n m l h; omega
  | succ k ih =>
    intro n m l hk hv
    rw [al_succ]
    cases l with
    | nil =>
      have h0 : n = 0 := hv
      rw [if_pos h0]; exact ⟨0, rfl⟩
    | cons x r =>
      obtain ⟨h1, h2, h3, h4⟩ := hv
      rw [if_neg (by omega)]
      obtain ⟨j, hj⟩ := ih (n - x.toNat) x.toNat r (by omega) h4
      refine ⟨_, fm_get_of (min m n) (x.toNat - 1) j _ (by omega) ?_⟩
      unfold alG
      rw [List.getElem?_map, Nat.sub_add_cancel (by omega), hj]
      simp only [Option.map_some]
      rw [Int.toNat_of_nonneg (by omega)]
theorem al_at {k n m : Nat} {l : List Int} (hk : n < k) (hn : n ≤ 30) (hv : Val m n l) : 0 ≤ idx n l ∧ (al k n m)[(idx n l).toNat]? = some l ∧ ∀ j : Nat, (al k n m)[j]? = some l → j = (idx n l).toNat := by
  obtain ⟨j, hj⟩ := al_has k n m l hk hv
  have e := (al_idx k n m j l hk hn hj).1
  refine ⟨by omega, ?_, fun j' hj' => ?_⟩
  · rw [← e]; exact hj
  · have := (al_idx k n m j' l hk hn hj').1
    omega
theorem f55_eqV {F : Nat} {x a b : Int} : f55 F x a b = some (decide (a ≤ x ∧ x ≤ b)) := by
  unfold f55
  by_cases h : a ≤ x <;> simp [h]

/- The codes of Check. -/
def chkL : Int → List Int → Int
  | _, [] => 0
  | p, x :: r => if 1 ≤ x ∧ x ≤ 30 then (if x > p then 7 else chkL x r) else 1
def sm (l : List Int) : Int := l.foldr (· + ·) 0
def chk (l : List Int) : Int := if chkL 30 l ≠ 0 then chkL 30 l else if sm l > 30 then 3 else 0
theorem sm_cons (x : Int) (r : List Int) : sm (x :: r) = x + sm r := rfl
theorem chkL_sm : ∀ (l : List Int) (p : Int), chkL p l = 0 → l.length ≤ sm l ∧ sm l ≤ 30 * l.length := by
  intro l
  induction l with
  | nil => intro _ _; exact ⟨by decide, by decide⟩
  | cons x r ih =>
    intro p h
    simp only [chkL] at h
    split at h
    · split at h
      · cases h
      · have := ih _ h
        rw [sm_cons]; simp only [List.length_cons]; omega
    · cases h
theorem chkL_val : ∀ (l : List Int) (m : Nat), chkL m l = 0 → Val m (sm l).toNat l := by
  intro l
  induction l with
  | nil => intro _ _; rfl
  | cons x r ih =>
    intro m h
    have hs := chkL_sm _ _ h
    simp only [chkL] at h
    split at h
    · rename_i hx
      split at h
      · cases h
      · have hr := chkL_sm _ _ h
        have h' : chkL (x.toNat : Int) r = 0 := by rw [Int.toNat_of_nonneg (by omega)]; exact h
        have := ih x.toNat h'
        rw [sm_cons] at hs ⊢
        refine ⟨by omega, by omega, by omega, ?_⟩
        rw [show (x + sm r).toNat - x.toNat = (sm r).toNat by omega]
        exact this
    · cases h
theorem f34_p1_eq {F : Nat} {l : List Int} (hl : l.length ≤ 100) : ∀ (k i : Nat) (p s : Int), i ≤ l.length → l.length < k + i → 0 ≤ s → s ≤ 31 →
    ∃ z, f34_p1 F l k p s i = some z ∧ (chkL p (l.drop i) ≠ 0 → z = .c0 (chkL p (l.drop i))) ∧ (chkL p (l.drop i) = 0 → z = .c1 (if 31 < s + sm (l.drop i) then 31 else s + sm (l.drop i))) := by
  intro k
  induction k with
  | zero => intro i p s _ h; omega
  | succ k ih =>
    intro i p s h1 h2 h3 h4
    unfold f34_p1
    by_cases hi : i < l.length
    · rw [if_pos (by simp; omega), at_of (List.getElem?_eq_getElem hi), drop_cons hi]
      simp only [Option.bind_some, f57_eq, decide_eq_true_eq, chkL]
      by_cases hx : 1 ≤ l[i] ∧ l[i] ≤ 30
      · rw [if_pos hx, if_pos hx]
        by_cases hp : l[i] > p
        · rw [if_pos hp, if_pos hp]
          exact ⟨_, rfl, fun _ => rfl, fun h => by cases h⟩
        · rw [if_neg hp, if_neg hp, show w64 ((i : Int) + 1) = ((i + 1 : Nat) : Int) by rw [w64_in (by omega)]; omega, w64_in (n := s + l[i]) (by omega)]
          obtain ⟨z, e1, e2, e3⟩ := ih (i + 1) l[i] (if 31 < s + l[i] then 31 else s + l[i]) (by omega) (by omega) (by split <;> omega) (by split <;> omega)
          refine ⟨z, e1, e2, fun h => ?_⟩
          rw [e3 h, sm_cons]
          have := chkL_sm _ _ h
          congr 1
          split <;> split <;> split <;> omega
      · rw [if_neg hx, if_neg hx]
        exact ⟨_, rfl, fun _ => rfl, fun h => by cases h⟩
    · rw [if_neg (by simp; omega), List.drop_eq_nil_of_le (by omega)]
      refine ⟨_, rfl, fun h => absurd rfl h, fun _ => ?_⟩
      simp only [sm, List.foldr_nil, Int.add_zero]
      rw [if_neg (by omega)]
theorem f34_eq {F : Nat} {l : List Int} (hl : l.length ≤ 100) (hF : 200 ≤ F) : f34 F l = some (chk l) := by
  obtain ⟨z, e1, e2, e3⟩ := f34_p1_eq (F := F) hl F 0 30 0 (by omega) (by omega) (by omega) (by omega)
  unfold f34 chk
  rw [show (0 : Int) = ((0 : Nat) : Int) from rfl] at e1 ⊢
  rw [show (((0 : Nat) : Int)) = 0 from rfl] at e1 ⊢
  rw [show f34_p1 F l F 30 0 0 = some z from e1, Option.bind_some]
  rw [List.drop_zero] at e2 e3
  by_cases h : chkL 30 l = 0
  · rw [e3 h, if_neg (c := chkL 30 l ≠ 0) (fun hh => hh h)]
    simp only [decide_eq_true_eq]
    have := chkL_sm _ _ h
    rw [Int.zero_add]
    by_cases hs : sm l > 30
    · rw [if_pos hs, if_pos (by split <;> omega)]
    · rw [if_neg hs, if_neg (by split <;> omega)]
  · rw [e2 h, if_pos h]
theorem f35_p1_eq {F : Nat} {l : List Int} (hl : l.length ≤ 100) : ∀ (k i : Nat) (p : Int), i ≤ l.length → l.length < k + i → (i = 0 → p = 30) → (∀ h : 0 < i, ∀ h2 : i - 1 < l.length, p = l[i - 1]) →
    ∃ z, f35_p1 F l k i = some z ∧ (chkL p (l.drop i) ≠ 0 → z = .c0 (chkL p (l.drop i))) ∧ (chkL p (l.drop i) = 0 → z = .c1) := by
  intro k
  induction k with
  | zero => intro i p _ h; omega
  | succ k ih =>
    intro i p h1 h2 h3 h4
    unfold f35_p1
    by_cases hi : i < l.length
    · have w1 : w64 ((i : Int) + 1) = ((i + 1 : Nat) : Int) := by rw [w64_in (by omega)]; omega
      have ih' := ih (i + 1) l[i] (by omega) (by omega) (by omega) (fun _ _ => by simp only [Nat.add_sub_cancel])
      rw [if_pos (by simp; omega), at_of (List.getElem?_eq_getElem hi), drop_cons hi]
      simp only [Option.bind_some, f55_eqV, decide_eq_true_eq, chkL]
      by_cases hx : 1 ≤ l[i] ∧ l[i] ≤ 30
      · rw [if_pos hx, if_pos hx]
        by_cases h0 : i = 0
        · have hp := h3 h0
          rw [if_neg (by omega), if_neg (by omega), w1]
          exact ih'
        · have hp := h4 (by omega) (by omega)
          rw [if_pos (by omega), show w64 ((i : Int) - 1) = ((i - 1 : Nat) : Int) by rw [w64_in (by omega)]; omega, at_of (List.getElem?_eq_getElem (by omega : i - 1 < l.length)), Option.bind_some, ← hp]
          by_cases hq : l[i] > p
          · rw [if_pos hq, if_pos hq]
            exact ⟨_, rfl, fun _ => rfl, fun h => by cases h⟩
          · rw [if_neg hq, if_neg hq, w1]
            exact ih'
      · rw [if_neg hx, if_neg hx]
        exact ⟨_, rfl, fun _ => rfl, fun h => by cases h⟩
    · rw [if_neg (by simp; omega), List.drop_eq_nil_of_le (by omega)]
      exact ⟨_, rfl, fun h => absurd rfl h, fun _ => rfl⟩
theorem f71_p1_eq {F : Nat} {l : List Int} (hl : l.length ≤ 100) (hx : ∀ x ∈ l, 1 ≤ x ∧ x ≤ 30) : ∀ (k i : Nat) (s : Int), i ≤ l.length → l.length < k + i → 0 ≤ s → s ≤ 100 * i → f71_p1 F l k s i = some (s + sm (l.drop i)) := by
  intro k
  induction k with
  | zero => intro i s _ h; omega
  | succ k ih =>
    intro i s h1 h2 h3 h4
    unfold f71_p1
    by_cases hi : i < l.length
    · have := hx _ (List.getElem_mem hi)
      rw [if_pos (by simp; omega), at_of (List.getElem?_eq_getElem hi), Option.bind_some, drop_cons hi, sm_cons]
      rw [show w64 ((i : Int) + 1) = ((i + 1 : Nat) : Int) by rw [w64_in (by omega)]; omega, w64_in (by omega), ih (i + 1) _ (by omega) (by omega) (by omega) (by omega)]
      congr 1; omega
    · rw [if_neg (by simp; omega), List.drop_eq_nil_of_le (by omega)]
      simp [sm]
theorem f72_p1_eq {F : Nat} {l : List Int} (hl : l.length ≤ 100) (hx : ∀ x ∈ l, 1 ≤ x ∧ x ≤ 30) : ∀ (k i : Nat) (s : Int), i ≤ l.length → l.length < k + i → 0 ≤ s → s ≤ 100 * i → f72_p1 F l k s i = some (s + sm (l.drop i)) := by
  intro k
  induction k with
  | zero => intro i s _ h; omega
  | succ k ih =>
    intro i s h1 h2 h3 h4
    unfold f72_p1
    by_cases hi : i < l.length
    · have := hx _ (List.getElem_mem hi)
      rw [if_pos (by simp; omega), at_of (List.getElem?_eq_getElem hi), Option.bind_some, drop_cons hi, sm_cons]
      rw [show w64 ((i : Int) + 1) = ((i + 1 : Nat) : Int) by rw [w64_in (by omega)]; omega, w64_in (by omega), ih (i + 1) _ (by omega) (by omega) (by omega) (by omega)]
      congr 1; omega
    · rw [if_neg (by simp; omega), List.drop_eq_nil_of_le (by omega)]
      simp [sm]
theorem chkL_all : ∀ (l : List Int) (p : Int), chkL p l = 0 → ∀ x ∈ l, 1 ≤ x ∧ x ≤ 30 := by
  intro l
  induction l with
  | nil => intro _ _ x hx; cases hx
  | cons y r ih =>
    intro p h x hx
    simp only [chkL] at h
    split at h
    · split at h
      · cases h
      · rcases List.mem_cons.1 hx with rfl | hx
        · assumption
        · exact ih _ h x hx
    · cases h
theorem f71_eq {F : Nat} {l : List Int} (hl : l.length ≤ 100) (hF : 200 ≤ F) (hx : ∀ x ∈ l, 1 ≤ x ∧ x ≤ 30) : f71 F l = some (sm l) := by
  have h := f71_p1_eq (F := F) hl hx F 0 0 (by omega) (by omega) (by omega) (by omega)
  rw [Int.zero_add, List.drop_zero] at h
  unfold f71
  rw [show f71_p1 F l F 0 0 = some (sm l) from h, Option.bind_some]
theorem f72_eq {F : Nat} {l : List Int} (hl : l.length ≤ 100) (hF : 200 ≤ F) (hx : ∀ x ∈ l, 1 ≤ x ∧ x ≤ 30) : f72 F l = some (sm l) := by
  have h := f72_p1_eq (F := F) hl hx F 0 0 (by omega) (by omega) (by omega) (by omega)
  rw [Int.zero_add, List.drop_zero] at h
  unfold f72
  rw [show f72_p1 F l F 0 0 = some (sm l) from h, Option.bind_some]
theorem f35_eq {F : Nat} {l : List Int} (hl : l.length ≤ 100) (hF : 200 ≤ F) : f35 F l = some (chk l) := by
  obtain ⟨z, e1, e2, e3⟩ := f35_p1_eq (F := F) hl F 0 30 (by omega) (by omega) (fun _ => rfl) (fun h => by omega)
  rw [List.drop_zero] at e2 e3
  unfold f35 chk
  rw [show f35_p1 F l F 0 = some z from e1, Option.bind_some]
  by_cases hc : chkL 30 l = 0
  · rw [e3 hc, if_neg (c := chkL 30 l ≠ 0) (fun hh => hh hc)]
    have := chkL_sm _ _ hc
    simp only [f71_eq hl hF (chkL_all _ _ hc), Option.bind_some, decide_eq_true_eq]
    split <;> split <;> first | rfl | omega
  · rw [e2 hc, if_pos hc]
/-- How many numbers are not below k. -/
def cge (k : Int) : List Int → Int
  | [] => 0
  | x :: r => (if x ≥ k then 1 else 0) + cge k r
theorem cge_bd (k : Int) : ∀ l : List Int, 0 ≤ cge k l ∧ cge k l ≤ l.length
  | [] => by simp [cge]
  | x :: r => by
    have := cge_bd k r
    simp only [cge, List.length_cons]
    split <;> omega
theorem chkL_le : ∀ (l : List Int) (p : Int), chkL p l = 0 → ∀ x ∈ l, x ≤ p := by
  intro l
  induction l with
  | nil => intro _ _ x hx; cases hx
  | cons y r ih =>
    intro p h x hx
    simp only [chkL] at h
    split at h
    · split at h
      · cases h
      · rcases List.mem_cons.1 hx with rfl | hx
        · omega
        · have := ih _ h x hx
          omega
    · cases h
theorem cge_zero : ∀ (l : List Int) (k : Int), (∀ x ∈ l, x < k) → cge k l = 0 := by
  intro l
  induction l with
  | nil => intro _ _; rfl
  | cons y r ih =>
    intro k h
    have := h y (by simp)
    rw [cge, if_neg (by omega), ih k (fun x hx => h x (by simp [hx]))]
    rfl
theorem cge_at : ∀ (l : List Int) (p k : Int) (n : Nat), chkL p l = 0 → n ≤ l.length → (∀ h : n < l.length, l[n] < k) → (∀ h : n - 1 < l.length, 0 < n → l[n - 1] ≥ k) → cge k l = n := by
  intro l
  induction l with
  | nil => intro p k n _ h _ _; simp at h; subst h; rfl
  | cons y r ih =>
    intro p k n h hn h1 h2
    have hr : chkL y r = 0 := by
      simp only [chkL] at h
      split at h
      · split at h
        · cases h
        · exact h
      · cases h
    have hle := chkL_le _ _ hr
    match n, hn, h1, h2 with
    | 0, _, h1, _ =>
      have h1 := h1 (by simp)
      simp only [List.getElem_cons_zero] at h1
      refine cge_zero _ _ fun x hx => ?_
      rcases List.mem_cons.1 hx with rfl | hx
      · exact h1
      · have := hle x hx
        omega
    | n + 1, hn, h1, h2 =>
      simp only [List.length_cons] at hn
      have h2 := h2 (by simp; omega) (by omega)
      simp only [Nat.add_sub_cancel] at h2
      have hy : y ≥ k := by
        cases n with
        | zero => simpa using h2
        | succ n =>
          have : n < r.length := by omega
          simp only [List.getElem_cons_succ] at h2
          have := hle _ (List.getElem_mem this)
          omega
      rw [cge, if_pos hy, ih y k n hr (by omega) (fun h => by have := h1 (by simp; omega); simpa using this) (fun h h0 => ?_)]
      · omega
      · obtain ⟨m, rfl⟩ : ∃ m, n = m + 1 := ⟨n - 1, by omega⟩
        simpa using h2
def turn (l : List Int) (m : Nat) : List Int := (List.range m).map fun (j : Nat) => cge ((j : Int) + 1) l
theorem turn_len (l : List Int) (m : Nat) : (turn l m).length = m := by simp [turn]
theorem turn_succ (l : List Int) (m : Nat) : turn l (m + 1) = turn l m ++ [cge ((m : Int) + 1) l] := by simp [turn, List.range_succ]
theorem turn_add {l : List Int} {m : Nat} {n : Int} : ∀ d : Nat, (∀ j, m ≤ j → j < m + d → cge ((j : Int) + 1) l = n) → turn l (m + d) = turn l m ++ List.replicate d n := by
  intro d
  induction d with
  | zero => intro _; simp
  | succ d ih =>
    intro h
    rw [← Nat.add_assoc, turn_succ, ih (fun j h1 h2 => h j h1 (by omega)), h (m + d) (by omega) (by omega), List.replicate_succ', List.append_assoc]
theorem f61_p6_eq {F : Nat} {l : List Int} {n a b : Int} (hb : 0 ≤ b) (hab : b ≤ a) (ha : a ≤ 30) : ∀ (k i : Nat) (acc : List Int), (i : Int) ≤ a - b → a - b < k + i → acc.length ≤ 1000 + i →
    f61_p6_1 F l n a b k i acc = some (acc ++ List.replicate ((a - b).toNat - i) n) := by
  intro k
  induction k with
  | zero => intro i acc _ h; omega
  | succ k ih =>
    intro i acc h1 h2 h3
    unfold f61_p6_1
    rw [w64_in (n := a - b) (by omega)]
    by_cases hi : (i : Int) < a - b
    · rw [if_pos (by simpa using hi), req_pos (by simp; omega), show w64 ((i : Int) + 1) = ((i + 1 : Nat) : Int) by rw [w64_in (by omega)]; omega]
      rw [ih (i + 1) _ (by omega) (by omega) (by simp; omega)]
      rw [show (a - b).toNat - i = ((a - b).toNat - (i + 1)) + 1 by omega, List.replicate_succ, List.append_assoc]
      rfl
    · rw [if_neg (by simpa using hi), show (a - b).toNat - i = 0 by omega]
      simp
def nxt (l : List Int) (n : Nat) : Int := (l[n]?.getD 0)
theorem nxt_lt {l : List Int} {n : Nat} (h : n < l.length) : nxt l n = l[n] := by simp [nxt, List.getElem?_eq_getElem h]
theorem nxt_ge {l : List Int} {n : Nat} (h : l.length ≤ n) : nxt l n = 0 := by simp [nxt, List.getElem?_eq_none h]
theorem chkL_step : ∀ (l : List Int) (p : Int), chkL p l = 0 → ∀ n, (h : n + 1 < l.length) → l[n + 1] ≤ l[n] := by
  intro l
  induction l with
  | nil => intro _ _ n h; simp at h
  | cons y r ih =>
    intro p h n hn
    have hr : chkL y r = 0 := by
      simp only [chkL] at h
      split at h
      · split at h
        · cases h
        · exact h
      · cases h
    cases n with
    | zero =>
      simp only [List.getElem_cons_succ, List.getElem_cons_zero]
      exact chkL_le _ _ hr _ (List.getElem_mem _)
    | succ n =>
      simp only [List.getElem_cons_succ]
      exact ih y hr n (by simpa using hn)
theorem f61_p1_eq {F : Nat} (hF : 200 ≤ F) {l : List Int} (hl : l.length ≤ 100) (hc : chkL 30 l = 0) : ∀ (k n : Nat), n ≤ l.length → n < k →
    f61_p1 F l k n (turn l (nxt l n).toNat) = some (turn l (nxt l 0).toNat) := by
  have hx := chkL_all _ _ hc
  intro k
  induction k with
  | zero => intro n _ h; omega
  | succ k ih =>
    intro n h1 h2
    unfold f61_p1
    by_cases h0 : 0 < n
    · have hn : n - 1 < l.length := by omega
      have hx1 := hx _ (List.getElem_mem hn)
      have e1 : f61_p4_1 F l (turn l (nxt l n).toNat) n = some (nxt l n) := by
        unfold f61_p4_1
        by_cases h : n < l.length
        · rw [if_pos (by simp; omega), at_of (List.getElem?_eq_getElem h), Option.bind_some, nxt_lt h]
        · rw [if_neg (by simp; omega), nxt_ge (by omega)]
      have hle : nxt l n ≤ l[n - 1] ∧ 0 ≤ nxt l n := by
        by_cases h : n < l.length
        · rw [nxt_lt h]
          have := chkL_step _ _ hc (n - 1) (by omega)
          simp only [Nat.sub_add_cancel h0] at this
          have := hx _ (List.getElem_mem h)
          omega
        · rw [nxt_ge (by omega)]; omega
      rw [if_pos (by simp; omega), e1, Option.bind_some, show w64 ((n : Int) - 1) = ((n - 1 : Nat) : Int) by rw [w64_in (by omega)]; omega, at_of (List.getElem?_eq_getElem hn), Option.bind_some]
      have e2 := f61_p6_eq (F := F) (l := l) (n := (n : Int)) (a := l[n - 1]) (b := nxt l n) hle.2 hle.1 hx1.2 F 0 (turn l (nxt l n).toNat) (by omega) (by omega) (by rw [turn_len]; omega)
      rw [show f61_p6_1 F l n l[n - 1] (nxt l n) F 0 (turn l (nxt l n).toNat) = _ from e2, Option.bind_some]
      have e3 : turn l (nxt l n).toNat ++ List.replicate ((l[n - 1] - nxt l n).toNat - 0) (n : Int) = turn l (nxt l (n - 1)).toNat := by
        rw [nxt_lt hn, ← turn_add]
        · congr 1; omega
        · intro j hj1 hj2
          refine cge_at l 30 _ n hc h1 (fun h => ?_) (fun h _ => by omega)
          rw [nxt_lt h] at hj1
          have := hx _ (List.getElem_mem h)
          omega
      rw [e3]
      exact ih (n - 1) (by omega) (by omega)
    · have : n = 0 := by omega
      subst this
      rw [if_neg (by decide)]
theorem f61_eq {F : Nat} (hF : 200 ≤ F) {l : List Int} (hl : l.length ≤ 100) (hc : chkL 30 l = 0) : f61 F l = some (turn l (nxt l 0).toNat) := by
  have e := f61_p1_eq hF hl hc F l.length (Nat.le_refl _) (by omega)
  rw [nxt_ge (Nat.le_refl _), show turn l (Int.toNat 0) = [] from rfl] at e
  unfold f61
  rw [show f61_p1 F l F ((l.length : Nat) : Int) [] = _ from e, Option.bind_some, take0]
theorem f62_p5_eq {F : Nat} {l o : List Int} {q : Int} (hl : l.length ≤ 100) : ∀ (k i : Nat) (a : Int), i ≤ l.length → l.length < k + i → 0 ≤ a → a ≤ i → f62_p5_1 F l o q k a i = some (a + cge q (l.drop i)) := by
  intro k
  induction k with
  | zero => intro i a _ h; omega
  | succ k ih =>
    intro i a h1 h2 h3 h4
    unfold f62_p5_1
    by_cases hi : i < l.length
    · rw [if_pos (by simp; omega), at_of (List.getElem?_eq_getElem hi), Option.bind_some, show w64 ((i : Int) + 1) = ((i + 1 : Nat) : Int) by rw [w64_in (by omega)]; omega, drop_cons hi, cge]
      unfold f62_p8_1
      rw [w64_in (by omega)]
      by_cases h : l[i] ≥ q
      · rw [if_pos (by simpa using h), if_pos h, Option.bind_some, ih (i + 1) _ (by omega) (by omega) (by omega) (by omega)]
        congr 1; omega
      · rw [if_neg (by simpa using h), if_neg h, Option.bind_some, ih (i + 1) _ (by omega) (by omega) (by omega) (by omega)]
        congr 1; omega
    · rw [if_neg (by simp; omega), List.drop_eq_nil_of_le (by omega)]
      simp [cge]
theorem f62_eq {F : Nat} (hF : 200 ≤ F) {l : List Int} (hl : l.length ≤ 100) (hc : chkL 30 l = 0) : f62 F l = some (turn l (nxt l 0).toNat) := by
  have hx := chkL_all _ _ hc
  unfold f62
  have loop : ∀ (k m : Nat), (m : Int) ≤ nxt l 0 → nxt l 0 < k + m → f62_p1 F l k ((m + 1 : Nat) : Int) (turn l m) = some (turn l (nxt l 0).toNat) := by
    intro k
    induction k with
    | zero => intro m _ h; omega
    | succ k ih =>
      intro m h1 h2
      unfold f62_p1
      by_cases hl0 : 0 < l.length
      · have hx0 := hx _ (List.getElem_mem hl0)
        rw [nxt_lt hl0] at h1 h2
        rw [if_pos (by simp; omega), show at? l 0 = some l[0] from at_of (List.getElem?_eq_getElem hl0), Option.bind_some]
        by_cases hm : (m : Int) < l[0]
        · have e := f62_p5_eq (F := F) (o := turn l m) (q := ((m + 1 : Nat) : Int)) hl F 0 0 (by omega) (by omega) (by omega) (by omega)
          have hcb := cge_bd ((m + 1 : Nat) : Int) l
          rw [if_pos (by simp; omega), show f62_p5_1 F l (turn l m) ((m + 1 : Nat) : Int) F 0 0 = _ from e, Option.bind_some, req_pos (by rw [turn_len]; simp; omega), show w64 (((m + 1 : Nat) : Int) + 1) = ((m + 1 + 1 : Nat) : Int) by rw [w64_in (by omega)]; omega]
          rw [List.drop_zero, Int.zero_add, show ((m + 1 : Nat) : Int) = (m : Int) + 1 from rfl, ← turn_succ]
          exact ih (m + 1) (by rw [nxt_lt hl0]; omega) (by rw [nxt_lt hl0]; omega)
        · rw [if_neg (by simp; omega), nxt_lt hl0, show m = l[0].toNat by omega]
      · rw [nxt_ge (by omega)] at h1 ⊢
        rw [if_neg (by simp only [decide_eq_true_eq]; omega), show m = (0 : Int).toNat by omega]
  have hb : nxt l 0 ≤ 30 := by
    by_cases h : 0 < l.length
    · rw [nxt_lt h]; exact (hx _ (List.getElem_mem h)).2
    · rw [nxt_ge (by omega)]; omega
  have h0 : 0 ≤ nxt l 0 := by
    by_cases h : 0 < l.length
    · rw [nxt_lt h]; have := (hx _ (List.getElem_mem h)).1; omega
    · rw [nxt_ge (by omega)]; omega
  have e := loop F 0 (by omega) (by omega)
  rw [show turn l 0 = [] from rfl] at e
  rw [show f62_p1 F l F 1 [] = _ from e, Option.bind_some, take0]
theorem f73_p2_eq {F : Nat} {a b : List Int} (hab : a.length = b.length) (ha : a.length ≤ 5000) : ∀ (k i : Nat), i ≤ a.length → a.length < k + i → f73_p2 F a b k i = some (if a.drop i = b.drop i then .c1 else .c0) := by
  intro k
  induction k with
  | zero => intro i _ h; omega
  | succ k ih =>
    intro i h1 h2
    unfold f73_p2
    by_cases hi : i < a.length
    · rw [if_pos (by simp; omega), at_of (List.getElem?_eq_getElem hi), at_of (List.getElem?_eq_getElem (by omega : i < b.length)), Option.bind_some, Option.bind_some]
      have e : (List.drop i a = List.drop i b) = (a[i] = b[i] ∧ List.drop (i + 1) a = List.drop (i + 1) b) := by rw [drop_cons hi, drop_cons (by omega : i < b.length), List.cons.injEq]
      simp only [e]
      by_cases he : a[i] = b[i]
      · rw [if_neg (by simp [he]), show w64 ((i : Int) + 1) = ((i + 1 : Nat) : Int) by rw [w64_in (by omega)]; omega, ih (i + 1) (by omega) (by omega)]
        simp only [he, true_and]
      · rw [if_pos (by simp [he]), if_neg (fun h => he h.1)]
    · rw [if_neg (by simp; omega), List.drop_eq_nil_of_le (by omega), List.drop_eq_nil_of_le (by omega)]
      rfl
theorem f73_eq {F : Nat} {a b : List Int} (ha : a.length < F) (hF : F ≤ 5000) : f73 F a b = some (decide (a = b)) := by
  unfold f73
  by_cases hab : a.length = b.length
  · have h := f73_p2_eq (F := F) hab (by omega) F 0 (by omega) (by omega)
    rw [List.drop_zero, List.drop_zero] at h
    rw [if_neg (by simp [hab]), show f73_p2 F a b F 0 = _ from h, Option.bind_some]
    by_cases he : a = b
    · rw [if_pos he, decide_eq_true he]
    · rw [if_neg he, decide_eq_false he]
  · rw [if_pos (by simp; omega), decide_eq_false (fun h => hab (by rw [h]))]
theorem f31_p2_eq {F : Nat} {a b : List Int} (hab : a.length = b.length) (ha : a.length ≤ 5000) : ∀ (k i : Nat), i ≤ a.length → a.length < k + i → f31_p2 F a b k i = some (if a.drop i = b.drop i then .c1 else .c0) := by
  intro k
  induction k with
  | zero => intro i _ h; omega
  | succ k ih =>
    intro i h1 h2
    unfold f31_p2
    by_cases hi : i < a.length
    · rw [if_pos (by simp; omega), at_of (List.getElem?_eq_getElem hi), at_of (List.getElem?_eq_getElem (by omega : i < b.length)), Option.bind_some, Option.bind_some]
      have e : (List.drop i a = List.drop i b) = (a[i] = b[i] ∧ List.drop (i + 1) a = List.drop (i + 1) b) := by rw [drop_cons hi, drop_cons (by omega : i < b.length), List.cons.injEq]
      simp only [e]
      by_cases he : a[i] = b[i]
      · rw [if_neg (by simp [he]), show w64 ((i : Int) + 1) = ((i + 1 : Nat) : Int) by rw [w64_in (by omega)]; omega, ih (i + 1) (by omega) (by omega)]
        simp only [he, true_and]
      · rw [if_pos (by simp [he]), if_neg (fun h => he h.1)]
    · rw [if_neg (by simp; omega), List.drop_eq_nil_of_le (by omega), List.drop_eq_nil_of_le (by omega)]
      rfl
theorem f31_eq {F : Nat} {a b : List Int} (ha : a.length < F) (hF : F ≤ 5000) : f31 F a b = some (decide (a = b)) := by
  unfold f31
  by_cases hab : a.length = b.length
  · have h := f31_p2_eq (F := F) hab (by omega) F 0 (by omega) (by omega)
    rw [List.drop_zero, List.drop_zero] at h
    rw [if_neg (by simp [hab]), show f31_p2 F a b F 0 = _ from h, Option.bind_some]
    by_cases he : a = b
    · rw [if_pos he, decide_eq_true he]
    · rw [if_neg he, decide_eq_false he]
  · rw [if_pos (by simp; omega), decide_eq_false (fun h => hab (by rw [h]))]

/- Number -/
theorem f77_p2_eq {F : Nat} {a b : List Int} (hab : a.length = b.length) (ha : a.length ≤ 5000) : ∀ (k i : Nat), i ≤ a.length → a.length < k + i → f77_p2 F a b k i = some (if a.drop i = b.drop i then .c1 else .c0) := by
  intro k
  induction k with
  | zero => intro i _ h; omega
  | succ k ih =>
    intro i h1 h2
    unfold f77_p2
    by_cases hi : i < a.length
    · rw [if_pos (by simp; omega), at_of (List.getElem?_eq_getElem hi), at_of (List.getElem?_eq_getElem (by omega : i < b.length)), Option.bind_some, Option.bind_some]
      have e : (List.drop i a = List.drop i b) = (a[i] = b[i] ∧ List.drop (i + 1) a = List.drop (i + 1) b) := by rw [drop_cons hi, drop_cons (by omega : i < b.length), List.cons.injEq]
      simp only [e]
      by_cases he : a[i] = b[i]
      · rw [if_neg (by simp [he]), show w64 ((i : Int) + 1) = ((i + 1 : Nat) : Int) by rw [w64_in (by omega)]; omega, ih (i + 1) (by omega) (by omega)]
        simp only [he, true_and]
      · rw [if_pos (by simp [he]), if_neg (fun h => he h.1)]
    · rw [if_neg (by simp; omega), List.drop_eq_nil_of_le (by omega), List.drop_eq_nil_of_le (by omega)]
      rfl
theorem f77_eq {F : Nat} {a b : List Int} (ha : a.length < F) (hF : F ≤ 5000) : f77 F a b = some (decide (a = b)) := by
  unfold f77
  by_cases hab : a.length = b.length
  · have h := f77_p2_eq (F := F) hab (by omega) F 0 (by omega) (by omega)
    rw [List.drop_zero, List.drop_zero] at h
    rw [if_neg (by simp [hab]), show f77_p2 F a b F 0 = _ from h, Option.bind_some]
    by_cases he : a = b
    · rw [if_pos he, decide_eq_true he]
    · rw [if_neg he, decide_eq_false he]
  · rw [if_pos (by simp; omega), decide_eq_false (fun h => hab (by rw [h]))]
/-- The square: how many numbers from here on are greater than their place. -/
def dur : Nat → List Int → Nat
  | i, [] => i
  | i, x :: r => if x ≥ (i : Int) + 1 then dur (i + 1) r else i
theorem dur_bd : ∀ (l : List Int) (i : Nat), i ≤ dur i l ∧ dur i l ≤ i + l.length
  | [], i => by simp [dur]
  | x :: r, i => by
    have := dur_bd r (i + 1)
    simp only [dur, List.length_cons]
    split <;> omega
theorem f75_p1_eq {F : Nat} {l : List Int} (hl : l.length ≤ 100) : ∀ (k i : Nat), i ≤ l.length → l.length < k + i → f75_p1 F l k i = some ((dur i (l.drop i) : Nat) : Int) := by
  intro k
  induction k with
  | zero => intro i _ h; omega
  | succ k ih =>
    intro i h1 h2
    unfold f75_p1
    by_cases hi : i < l.length
    · rw [if_pos (by simp; omega), at_of (List.getElem?_eq_getElem hi), Option.bind_some, drop_cons hi, dur, show w64 ((i : Int) + 1) = ((i + 1 : Nat) : Int) by rw [w64_in (by omega)]; omega]
      by_cases h : l[i] ≥ (i : Int) + 1
      · rw [if_pos (by simp; omega), if_pos h]
        exact ih (i + 1) (by omega) (by omega)
      · rw [if_neg (by simp; omega), if_neg h]
    · rw [if_neg (by simp; omega), List.drop_eq_nil_of_le (by omega)]
      rfl
theorem f75_eq {F : Nat} (hF : 200 ≤ F) {l : List Int} (hl : l.length ≤ 100) : f75 F l = some ((dur 0 l : Nat) : Int) := by
  have e := f75_p1_eq (F := F) hl F 0 (by omega) (by omega)
  rw [List.drop_zero] at e
  unfold f75
  rw [show f75_p1 F l F 0 = _ from e, Option.bind_some]
theorem chkL_cons {p x : Int} {r : List Int} (h : chkL p (x :: r) = 0) : (1 ≤ x ∧ x ≤ 30) ∧ x ≤ p ∧ chkL x r = 0 := by
  simp only [chkL] at h
  split at h
  · rename_i hx
    split at h
    · cases h
    · exact ⟨hx, by omega, h⟩
  · cases h
theorem f74_stay {F : Nat} {l : List Int} (hl : l.length ≤ 100) (s : Int) : ∀ (k i : Nat) (p : Int), i ≤ l.length → l.length < k + i → chkL p (l.drop i) = 0 → p ≤ i → f74_p1 F l k s i = some s := by
  intro k
  induction k with
  | zero => intro i p _ h; omega
  | succ k ih =>
    intro i p h1 h2 hc hp
    unfold f74_p1
    by_cases hi : i < l.length
    · rw [drop_cons hi] at hc
      obtain ⟨c1, c2, c3⟩ := chkL_cons hc
      rw [if_pos (by simp; omega), at_of (List.getElem?_eq_getElem hi), Option.bind_some, f74_p4, if_neg (by simp; omega), Option.bind_some, show w64 ((i : Int) + 1) = ((i + 1 : Nat) : Int) by rw [w64_in (by omega)]; omega]
      exact ih (i + 1) _ (by omega) (by omega) c3 (by omega)
    · rw [if_neg (by simp; omega)]
theorem f74_p1_eq {F : Nat} {l : List Int} (hl : l.length ≤ 100) : ∀ (k i : Nat) (p : Int), i ≤ l.length → l.length < k + i → chkL p (l.drop i) = 0 → f74_p1 F l k i i = some ((dur i (l.drop i) : Nat) : Int) := by
  intro k
  induction k with
  | zero => intro i p _ h; omega
  | succ k ih =>
    intro i p h1 h2 hc
    unfold f74_p1
    by_cases hi : i < l.length
    · rw [drop_cons hi] at hc
      obtain ⟨c1, c2, c3⟩ := chkL_cons hc
      rw [if_pos (by simp; omega), at_of (List.getElem?_eq_getElem hi), Option.bind_some, f74_p4, show w64 ((i : Int) + 1) = ((i + 1 : Nat) : Int) by rw [w64_in (by omega)]; omega, drop_cons hi, dur]
      by_cases h : l[i] ≥ (i : Int) + 1
      · rw [if_pos (by simp; omega), if_pos h, Option.bind_some]
        exact ih (i + 1) _ (by omega) (by omega) c3
      · rw [if_neg (by simp; omega), if_neg h, Option.bind_some]
        exact f74_stay hl _ k (i + 1) _ (by omega) (by omega) c3 (by omega)
    · rw [if_neg (by simp; omega), List.drop_eq_nil_of_le (by omega)]
      rfl
theorem f74_eq {F : Nat} (hF : 200 ≤ F) {l : List Int} (hl : l.length ≤ 100) (hc : chkL 30 l = 0) : f74 F l = some ((dur 0 l : Nat) : Int) := by
  have e := f74_p1_eq (F := F) hl F 0 30 (by omega) (by omega) (by rw [List.drop_zero]; exact hc)
  rw [List.drop_zero] at e
  unfold f74
  rw [show f74_p1 F l F 0 0 = _ from e, Option.bind_some]
theorem chk_zero {l : List Int} (h : chk l = 0) : chkL 30 l = 0 ∧ sm l ≤ 30 := by
  unfold chk at h
  split at h
  · rename_i h2; exact absurd h h2
  · rename_i h2
    refine ⟨Classical.not_not.1 h2, ?_⟩
    split at h
    · cases h
    · omega

/- Square -/
def rgt (K : Nat) : List Int → List Int
  | [] => []
  | x :: r => if x > (K : Int) then (x - K) :: rgt K r else rgt K r
theorem rgt_len (K : Nat) : ∀ l : List Int, (rgt K l).length ≤ l.length
  | [] => by simp [rgt]
  | x :: r => by
    have := rgt_len K r
    simp only [rgt]
    split <;> simp only [List.length_cons] <;> omega
theorem f40_p2_eq {F K : Nat} {l : List Int} (hl : l.length ≤ 100) (hx : ∀ x ∈ l, 1 ≤ x ∧ x ≤ 30) (hK : K ≤ l.length) : ∀ (k i : Nat) (acc : List Int), i ≤ K → K < k + i → acc.length ≤ i →
    f40_p2 F l K k i acc = some (acc ++ rgt K ((l.take K).drop i)) := by
  have hlen : (List.take K l).length = K := by simp; omega
  intro k
  induction k with
  | zero => intro i acc _ h; omega
  | succ k ih =>
    intro i acc h1 h2 h3
    unfold f40_p2
    rw [Int.toNat_natCast, List.drop_zero, hlen]
    by_cases hi : i < K
    · have hi' : i < (List.take K l).length := by omega
      have hxi := hx _ (List.mem_of_mem_take (List.getElem_mem hi'))
      rw [if_pos (by simp; omega), at_of (List.getElem?_eq_getElem hi'), Option.bind_some, drop_cons hi', rgt, f40_p5_1, show w64 ((i : Int) + 1) = ((i + 1 : Nat) : Int) by rw [w64_in (by omega)]; omega]
      by_cases h : (List.take K l)[i] > (K : Int)
      · rw [if_pos (by simpa using h), req_pos (by simp; omega), Option.bind_some, if_pos h, w64_in (by omega), ih (i + 1) _ (by omega) (by omega) (by simp; omega)]
        simp
      · rw [if_neg (by simpa using h), Option.bind_some, if_neg h, ih (i + 1) _ (by omega) (by omega) (by omega)]
    · rw [if_neg (by simp; omega), List.drop_eq_nil_of_le (by omega)]
      simp [rgt]
theorem f41_p2_late {F K : Nat} {l : List Int} (hl : l.length ≤ 100) (rt : List Int) : ∀ (k i : Nat) (acc : List Int), K ≤ i → i ≤ l.length → l.length < k + i → acc.length ≤ i →
    f41_p2 F l K k i acc rt = some (acc ++ l.drop i, rt) := by
  intro k
  induction k with
  | zero => intro i acc _ _ h; omega
  | succ k ih =>
    intro i acc h0 h1 h2 h3
    unfold f41_p2
    by_cases hi : i < l.length
    · rw [if_pos (by simp; omega), f41_p5_2, if_pos (by simp; omega), at_of (List.getElem?_eq_getElem hi), Option.bind_some, req_pos (by simp; omega), Option.bind_some, show w64 ((i : Int) + 1) = ((i + 1 : Nat) : Int) by rw [w64_in (by omega)]; omega]
      show f41_p2 F l K k ((i + 1 : Nat) : Int) _ rt = _
      rw [ih (i + 1) _ (by omega) (by omega) (by omega) (by simp; omega), drop_cons hi]
      simp
    · rw [if_neg (by simp; omega), List.drop_eq_nil_of_le (by omega)]
      simp
theorem f41_p2_eq {F K : Nat} {l : List Int} (hl : l.length ≤ 100) (hx : ∀ x ∈ l, 1 ≤ x ∧ x ≤ 30) (hK : K ≤ l.length) : ∀ (k i : Nat) (acc : List Int), i ≤ K → l.length < k + i → acc.length ≤ i →
    f41_p2 F l K k i [] acc = some (l.drop K, acc ++ rgt K ((l.take K).drop i)) := by
  have hlen : (List.take K l).length = K := by simp; omega
  intro k
  induction k with
  | zero => intro i acc _ h; omega
  | succ k ih =>
    intro i acc h1 h2 h3
    by_cases hi : i < K
    · have hi' : i < (List.take K l).length := by omega
      have hi2 : i < l.length := by omega
      have hxi := hx _ (List.getElem_mem hi2)
      have eg : (List.take K l)[i] = l[i] := by simp
      unfold f41_p2
      rw [if_pos (by simp; omega), f41_p5_2, if_neg (by simp; omega), at_of (List.getElem?_eq_getElem hi2), Option.bind_some, drop_cons hi', rgt, f41_p6_2, eg, show w64 ((i : Int) + 1) = ((i + 1 : Nat) : Int) by rw [w64_in (by omega)]; omega]
      by_cases h : l[i] > (K : Int)
      · rw [if_pos (by simpa using h), at_of (List.getElem?_eq_getElem hi2), Option.bind_some, req_pos (by simp; omega), Option.bind_some, Option.bind_some, if_pos h, w64_in (by omega)]
        show f41_p2 F l K k ((i + 1 : Nat) : Int) [] _ = _
        rw [ih (i + 1) _ (by omega) (by omega) (by simp; omega)]
        simp
      · rw [if_neg (by simpa using h), Option.bind_some, Option.bind_some, if_neg h]
        show f41_p2 F l K k ((i + 1 : Nat) : Int) [] _ = _
        rw [ih (i + 1) _ (by omega) (by omega) (by omega)]
    · have : i = K := by omega
      subst this
      rw [f41_p2_late hl acc (k + 1) i [] (by omega) (by omega) (by omega) (by simp), List.drop_eq_nil_of_le (as := List.take i l) (by omega)]
      simp [rgt]
theorem f70_2m_eq {F : Nat} {l : List Int} (hl : l.length ≤ 1000) : f70_2m F l = some l := by
  unfold f70_2m
  cases l with
  | nil => rfl
  | cons x r =>
    simp only [nilm, f70_2, Option.isNone_some, Option.getD_some]
    rw [if_neg (by decide), req_pos (by simp at hl ⊢; omega)]
    simp
theorem square_eq {F : Nat} (hF : 200 ≤ F) {l : List Int} (hl : l.length ≤ 100) : ∃ a b c e, f40 F l = some (a, b, c, e) ∧ f41 F l = some (a, b, c, e) ∧ b.length ≤ 100 ∧ c.length ≤ 100 := by
  unfold f40 f41
  rw [f34_eq hl hF, f35_eq hl hF, Option.bind_some, Option.bind_some]
  by_cases h : chk l = 0
  · obtain ⟨hc, _⟩ := chk_zero h
    have hx := chkL_all _ _ hc
    have hd := dur_bd l 0
    rw [if_neg (by simp [h]), if_neg (by simp [h]), f74_eq hF hl hc, f75_eq hF hl, Option.bind_some, Option.bind_some]
    generalize dur 0 l = K at *
    have e1 := f40_p2_eq (F := F) (K := K) hl hx (by omega) F 0 [] (by omega) (by omega) (by simp)
    have e2 := f41_p2_eq (F := F) (K := K) hl hx (by omega) F 0 [] (by omega) (by omega) (by simp)
    rw [req_pos (by omega), show f40_p2 F l K F 0 [] = _ from e1, Option.bind_some, req_pos (by omega), show f41_p2 F l K F 0 [] [] = _ from e2, Option.bind_some]
    have hr := rgt_len K (List.take K l)
    rw [Int.toNat_natCast, List.take_length, f70_2m_eq (by simp; omega), Option.bind_some]
    refine ⟨K, rgt K (List.take K l), List.drop K l, 0, ?_, ?_, ?_, ?_⟩
    · simp only [List.drop_zero, List.nil_append, Nat.zero_add, List.take_length]
    · simp only [List.drop_zero, List.nil_append, Nat.zero_add, List.take_length]
    · simp at hr; omega
    · simp; omega
  · rw [if_pos (by simpa using h), if_pos (by simpa using h)]
    exact ⟨_, _, _, _, rfl, rfl, by simp, by simp⟩

/- Join -/
theorem f76_look : ((List.range 31).all fun n => f76 2000 [(n : Int)] n == some (n, List.replicate n (n : Int))) = true := by decide +kernel
theorem f76_eq {n : Nat} (h : n ≤ 30) : f76 2000 [(n : Int)] n = some (n, List.replicate n (n : Int)) := by
  have := f76_look
  simp only [List.all_eq_true, List.mem_range, beq_iff_eq] at this
  exact this n (by omega)
theorem f42_p7_eq {F K : Nat} {b r : List Int} (hK : K ≤ 30) (hr : r.length ≤ K) (hx : ∀ x ∈ r, 1 ≤ x ∧ x ≤ 30) : ∀ (k i : Nat) (acc : List Int), i ≤ r.length → r.length < k + i → acc.length = i →
    f42_p7 F b K r k i (acc ++ List.replicate (K - i) (K : Int)) = some (acc ++ (r.drop i).map ((K : Int) + ·) ++ List.replicate (K - r.length) (K : Int)) := by
  intro k
  induction k with
  | zero => intro i acc _ h; omega
  | succ k ih =>
    intro i acc h1 h2 h3
    unfold f42_p7
    by_cases hi : i < r.length
    · have hxi := hx _ (List.getElem_mem hi)
      have hrep : List.replicate (K - i) (K : Int) = (K : Int) :: List.replicate (K - (i + 1)) (K : Int) := by rw [show K - i = (K - (i + 1)) + 1 by omega, List.replicate_succ]
      rw [if_pos (by simp; omega), at_of (List.getElem?_eq_getElem hi), Option.bind_some, req_pos (by omega), Int.toNat_natCast, Nat.zero_add, hrep]
      rw [List.getElem?_append_right (by omega), h3, Nat.sub_self, List.getElem?_cons_zero, Option.bind_some, req_pos (by simp; omega), w64_in (n := (K : Int) + r[i]) (by omega), show w64 ((i : Int) + 1) = ((i + 1 : Nat) : Int) by rw [w64_in (by omega)]; omega]
      rw [List.set_append_right _ _ (by omega), h3, Nat.sub_self, List.set_cons_zero]
      have := ih (i + 1) (acc ++ [(K : Int) + r[i]]) (by omega) (by omega) (by simp; omega)
      rw [List.append_assoc, List.singleton_append] at this
      rw [this, drop_cons hi]
      simp only [List.map_cons, List.append_assoc, List.cons_append, List.nil_append]
    · have : i = r.length := by omega
      subst this
      rw [if_neg (by simp), List.drop_eq_nil_of_le (by omega)]
      simp
theorem f42_p7_1_eq {F K : Nat} {b r : List Int} : ∀ (k : Nat) (i : Int) (acc : List Int), f42_p7_1 F b K r k i acc = f42_p7 F b K r k i acc := by
  intro k
  induction k with
  | zero => intro _ _; rfl
  | succ k ih => intro i acc; simp only [f42_p7_1, f42_p7, ih]
theorem f43_p6_late {F K : Nat} {b r : List Int} (hK : K ≤ 30) : ∀ (k i : Nat) (acc : List Int), r.length ≤ i → i ≤ K → K < k + i → acc.length ≤ i → f43_p6 F K r b k i acc = some (acc ++ List.replicate (K - i) (K : Int)) := by
  intro k
  induction k with
  | zero => intro i acc _ _ h; omega
  | succ k ih =>
    intro i acc h0 h1 h2 h3
    unfold f43_p6
    by_cases hi : i < K
    · rw [if_pos (by simp; omega), f43_p9_1, if_neg (by simp; omega), Option.bind_some, req_pos (by simp; omega), show w64 ((i : Int) + 1) = ((i + 1 : Nat) : Int) by rw [w64_in (by omega)]; omega, ih (i + 1) _ (by omega) (by omega) (by omega) (by simp; omega), show K - i = (K - (i + 1)) + 1 by omega, List.replicate_succ]
      simp
    · rw [if_neg (by simp; omega), show K - i = 0 by omega]
      simp
theorem f43_p6_eq {F K : Nat} {b r : List Int} (hK : K ≤ 30) (hr : r.length ≤ K) (hx : ∀ x ∈ r, 1 ≤ x ∧ x ≤ 30) : ∀ (k i : Nat) (acc : List Int), i ≤ r.length → K < k + i → acc.length ≤ i →
    f43_p6 F K r b k i acc = some (acc ++ (r.drop i).map ((K : Int) + ·) ++ List.replicate (K - r.length) (K : Int)) := by
  intro k
  induction k with
  | zero => intro i acc _ h; omega
  | succ k ih =>
    intro i acc h1 h2 h3
    by_cases hi : i < r.length
    · have hxi := hx _ (List.getElem_mem hi)
      unfold f43_p6
      rw [if_pos (by simp; omega), f43_p9_1, if_pos (by simp; omega), at_of (List.getElem?_eq_getElem hi), Option.bind_some, Option.bind_some, req_pos (by simp; omega), w64_in (n := (K : Int) + r[i]) (by omega), show w64 ((i : Int) + 1) = ((i + 1 : Nat) : Int) by rw [w64_in (by omega)]; omega, ih (i + 1) _ (by omega) (by omega) (by simp; omega), drop_cons hi]
      simp only [List.map_cons, List.append_assoc, List.cons_append, List.nil_append]
    · have : i = r.length := by omega
      subst this
      rw [f43_p6_late hK (k + 1) _ acc (by omega) hr (by omega) h3, List.drop_eq_nil_of_le (by omega)]
      simp
theorem f43_p6_1_eq {F : Nat} {K : Int} {b r : List Int} : ∀ (k : Nat) (i : Int) (acc : List Int), f43_p6_1 F K r b k i acc = f43_p6 F K r b k i acc := by
  intro k
  induction k with
  | zero => intro _ _; rfl
  | succ k ih => intro i acc; simp only [f43_p6_1, f43_p6, f43_p9_1, f43_p9_3, ih]
theorem join_eq {x : Int} {r b : List Int} (hr : r.length ≤ 100) (hb : b.length ≤ 100) : ∃ a e, f42 2000 x r b = some (a, e) ∧ f43 2000 x r b = some (a, e) ∧ a.length ≤ 200 := by
  unfold f42 f43 f42_p0 f43_p0
  simp only [f34_eq hr (F := 2000) (by omega), f35_eq hr (F := 2000) (by omega), f34_eq hb (F := 2000) (by omega), f35_eq hb (F := 2000) (by omega), Option.bind_some]
  by_cases h1 : chk r = 0
  · simp only [h1, beq_self_eq_true, if_true, Option.bind_some]
    by_cases h2 : chk b = 0
    · simp only [h2, bne_self_eq_false, beq_self_eq_true, Bool.false_eq_true, if_false, if_true, Option.bind_some, f43_p1, f57_eq, f55_eqV, decide_eq_true_eq]
      by_cases h3 : 0 ≤ x ∧ x ≤ 30
      · simp only [if_pos h3, Option.bind_some, beq_self_eq_true, if_true]
        by_cases h4 : (r.length : Int) > x
        · simp only [if_pos h4]
          exact ⟨_, _, rfl, rfl, by simp⟩
        · simp only [if_neg h4]
          have hxr := chkL_all _ _ (chk_zero h1).1
          have hxb := chkL_all _ _ (chk_zero h2).1
          obtain ⟨K, rfl⟩ : ∃ K : Nat, x = K := ⟨x.toNat, by omega⟩
          have e1 := f42_p7_eq (F := 2000) (K := K) (b := b) (r := r) (by omega) (by omega) hxr 2000 0 [] (by omega) (by omega) rfl
          have e2 := f43_p6_eq (F := 2000) (K := K) (b := b) (r := r) (by omega) (by omega) hxr 2000 0 [] (by omega) (by omega) (by simp)
          rw [List.drop_zero, List.nil_append, Nat.sub_zero, List.nil_append] at e1
          rw [List.drop_zero, List.nil_append] at e2
          generalize hq : List.map (fun x => (K : Int) + x) r ++ List.replicate (K - r.length) (K : Int) = q at *
          have hql : q.length = K := by rw [← hq]; simp; omega
          have e1' : f42_p7 2000 b K r 2000 0 (List.replicate K (K : Int)) = some q := e1
          have e2' : f43_p6 2000 K r b 2000 0 [] = some q := e2
          have e3' : f42_p7_1 2000 b K r 2000 0 (List.replicate K (K : Int)) = some q := by rw [f42_p7_1_eq]; exact e1
          have e4' : f43_p6_1 2000 K r b 2000 0 [] = some q := by rw [f43_p6_1_eq]; exact e2
          have r1 : q.length + b.length ≤ 1099511627776 := by omega
          simp only [f43_p2, f43_p3, f43_p3_1, f72_eq hr (F := 2000) (by omega) hxr, f72_eq hb (F := 2000) (by omega) hxb, f71_eq hr (F := 2000) (by omega) hxr, f71_eq hb (F := 2000) (by omega) hxb, Option.bind_some, f76_eq (n := K) (by omega), e1', e2', e3', e4', decide_eq_true_eq, req_pos r1, req_pos hql.symm]
          by_cases h5 : (b.length : Int) > 0
          · have hb0 : 0 < b.length := by omega
            have eat : at? b 0 = some b[0] := at_of (List.getElem?_eq_getElem hb0)
            simp only [if_pos h5, eat, Option.bind_some]
            by_cases h6 : b[0] > (K : Int)
            · simp only [if_pos h6, Option.bind_some]
              exact ⟨_, _, rfl, rfl, by simp⟩
            · simp only [if_neg h6, Option.bind_some, beq_self_eq_true, if_true]
              by_cases h7 : w64 (w64 (w64 ((K : Int) * K) + sm r) + sm b) > 30
              · simp only [if_pos h7, Option.bind_some]
                exact ⟨_, _, rfl, rfl, by simp⟩
              · simp only [if_neg h7, Option.bind_some, bne_self_eq_false, Bool.false_eq_true, if_false]
                exact ⟨_, _, rfl, rfl, by simp; omega⟩
          · simp only [if_neg h5]
            by_cases h7 : w64 (w64 (w64 ((K : Int) * K) + sm r) + sm b) > 30
            · simp only [if_pos h7, Option.bind_some]
              exact ⟨_, _, rfl, rfl, by simp⟩
            · simp only [if_neg h7, Option.bind_some, bne_self_eq_false, Bool.false_eq_true, if_false]
              exact ⟨_, _, rfl, rfl, by simp; omega⟩
      · simp only [if_neg h3, Option.bind_some]
        exact ⟨_, _, rfl, rfl, by simp⟩
    · simp only [bne_iff_ne, ne_eq, beq_iff_eq, h2, not_false_eq_true, if_true, if_false]
      exact ⟨_, _, rfl, rfl, by simp⟩
  · simp only [beq_iff_eq, h1, if_false, Option.bind_some, bne_iff_ne, ne_eq, not_false_eq_true, if_true]
    exact ⟨_, _, rfl, rfl, by simp⟩

/- Hooks -/
theorem hook_loop {F K : Nat} (hF : 200 ≤ F) {l : List Int} (hl : l.length ≤ 100) (hx : ∀ x ∈ l, 1 ≤ x ∧ x ≤ 30) (hK : dur 0 l = K) (hKl : K ≤ l.length) : ∀ (k i : Nat) (acc : List Int), i ≤ K → K < k + i → acc.length ≤ i →
    ∃ v, f44_p4 F l K k i acc = some v ∧ f45_p3 F l k ((i + 1 : Nat) : Int) acc = some v ∧ v.length ≤ K := by
  intro k
  induction k with
  | zero => intro i acc _ h; omega
  | succ k ih =>
    intro i acc h1 h2 h3
    unfold f44_p4 f45_p3
    rw [f75_eq hF hl, Option.bind_some, hK]
    by_cases hi : i < K
    · have hi2 : i < l.length := by omega
      have hxi := hx _ (List.getElem_mem hi2)
      rw [if_pos (by simp; omega), if_pos (by simp; omega), at_of (List.getElem?_eq_getElem hi2), Option.bind_some, show w64 (((i + 1 : Nat) : Int) - 1) = ((i : Nat) : Int) by rw [w64_in (by omega)]; omega, at_of (List.getElem?_eq_getElem hi2), Option.bind_some]
      rw [req_pos (by simp; omega), req_pos (by simp; omega)]
      rw [show w64 (w64 (2 * w64 (l[i] - (i : Int))) - 1) = 2 * l[i] - 2 * i - 1 by rw [w64_in (n := l[i] - (i : Int)) (by omega), w64_in (n := 2 * _) (by omega), w64_in (by omega)]; omega]
      rw [show w64 (w64 (w64 (2 * l[i]) - w64 (2 * ((i + 1 : Nat) : Int))) + 1) = 2 * l[i] - 2 * i - 1 by rw [w64_in (n := 2 * l[i]) (by omega), w64_in (n := 2 * ((i + 1 : Nat) : Int)) (by omega), w64_in (n := _ - _) (by omega), w64_in (by omega)]; omega]
      rw [show w64 ((i : Int) + 1) = ((i + 1 : Nat) : Int) by rw [w64_in (by omega)]; omega, show w64 (((i + 1 : Nat) : Int) + 1) = ((i + 1 + 1 : Nat) : Int) by rw [w64_in (by omega)]; omega]
      exact ih (i + 1) _ (by omega) (by omega) (by simp; omega)
    · rw [if_neg (by simp; omega), if_neg (by simp; omega)]
      exact ⟨acc, rfl, rfl, by omega⟩
theorem hooks_eq {l : List Int} (hl : l.length ≤ 100) : ∃ a e, f44 2000 l = some (a, e) ∧ f45 2000 l = some (a, e) ∧ a.length ≤ 100 := by
  unfold f44 f45
  rw [f34_eq hl (by omega), f35_eq hl (by omega), Option.bind_some, Option.bind_some]
  by_cases h : chk l = 0
  · obtain ⟨hc, _⟩ := chk_zero h
    have hx := chkL_all _ _ hc
    have hd := dur_bd l 0
    have hn : nxt l 0 ≤ 30 := by
      by_cases h : 0 < l.length
      · rw [nxt_lt h]; exact (hx _ (List.getElem_mem h)).2
      · rw [nxt_ge (by omega)]; omega
    rw [if_neg (by simp [h]), if_pos (by simp [h]), f61_eq (by omega) hl hc, f62_eq (by omega) hl hc, Option.bind_some, Option.bind_some]
    rw [f77_eq (by rw [turn_len]; omega) (by omega), f73_eq (by rw [turn_len]; omega) (by omega), Option.bind_some, Option.bind_some]
    unfold f45_p0
    by_cases h2 : turn l (nxt l 0).toNat = l
    · rw [if_pos (by simpa using h2), if_pos (by simpa using h2), Option.bind_some, if_neg (by simp [h]), f74_eq (by omega) hl hc, Option.bind_some]
      obtain ⟨v, v1, v2, v3⟩ := hook_loop (F := 2000) (K := dur 0 l) (by omega) hl hx rfl (by omega) 2000 0 [] (by omega) (by omega) (by simp)
      rw [show f44_p4 2000 l (dur 0 l : Nat) 2000 0 [] = _ from v1, show f45_p3 2000 l 2000 1 [] = _ from v2]
      simp only [Option.bind_some, take0]
      exact ⟨v, 0, rfl, rfl, by omega⟩
    · rw [if_neg (by simpa using h2), if_neg (by simpa using h2), Option.bind_some, if_pos (by decide)]
      exact ⟨_, _, rfl, rfl, by simp⟩
  · rw [if_pos (by simpa using h), if_neg (by simpa using h)]
    exact ⟨_, _, rfl, rfl, by simp⟩

end Go.Gh.Bunch
