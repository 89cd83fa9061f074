/- What is needed of the plain texts. -/
import Derived.Test.YtegnegeoodkpcaaBunch13N0
namespace Go.Gh.Bunch
set_option linter.unusedVariables false
set_option linter.unusedSimpArgs false

section
theorem w64_in {n : Int} (h : -9223372036854775808 ≤ n ∧ n < 9223372036854775808) : w64 n = n := by
  unfold w64 IntKind.wrap
  simp [IntKind.bits, IntKind.signed]
  split <;> omega
theorem at_of {α : Type} {l : List α} {i : Nat} {x : α} (h : l[i]? = some x) : at? l ((i : Nat) : Int) = some x := by
  unfold at?; simp [h]
theorem req_pos {α : Type} {p : Prop} [Decidable p] {x : Option α} (h : p) : req p x = x := by unfold req; rw [if_pos h]
theorem take0 {α : Type} (l : List α) : List.drop 0 (List.take (0 + l.length) l) = l := by simp
/-- How many divisions of n there are without a number greater than m. -/
def ctab : List (List Int) := [
  [1, 1, 1, 1, 1, 1, 1, 1, 1, 1, 1, 1, 1, 1, 1, 1, 1, 1, 1, 1, 1, 1, 1, 1, 1, 1, 1, 1, 1, 1, 1],
  [0, 1, 1, 1, 1, 1, 1, 1, 1, 1, 1, 1, 1, 1, 1, 1, 1, 1, 1, 1, 1, 1, 1, 1, 1, 1, 1, 1, 1, 1, 1],
  [0, 1, 2, 2, 2, 2, 2, 2, 2, 2, 2, 2, 2, 2, 2, 2, 2, 2, 2, 2, 2, 2, 2, 2, 2, 2, 2, 2, 2, 2, 2],
  [0, 1, 2, 3, 3, 3, 3, 3, 3, 3, 3, 3, 3, 3, 3, 3, 3, 3, 3, 3, 3, 3, 3, 3, 3, 3, 3, 3, 3, 3, 3],
  [0, 1, 3, 4, 5, 5, 5, 5, 5, 5, 5, 5, 5, 5, 5, 5, 5, 5, 5, 5, 5, 5, 5, 5, 5, 5, 5, 5, 5, 5, 5],
  [0, 1, 3, 5, 6, 7, 7, 7, 7, 7, 7, 7, 7, 7, 7, 7, 7, 7, 7, 7, 7, 7, 7, 7, 7, 7, 7, 7, 7, 7, 7],
  [0, 1, 4, 7, 9, 10, 11, 11, 11, 11, 11, 11, 11, 11, 11, 11, 11, 11, 11, 11, 11, 11, 11, 11, 11, 11, 11, 11, 11, 11, 11],
  [0, 1, 4, 8, 11, 13, 14, 15, 15, 15, 15, 15, 15, 15, 15, 15, 15, 15, 15, 15, 15, 15, 15, 15, 15, 15, 15, 15, 15, 15, 15],
  [0, 1, 5, 10, 15, 18, 20, 21, 22, 22, 22, 22, 22, 22, 22, 22, 22, 22, 22, 22, 22, 22, 22, 22, 22, 22, 22, 22, 22, 22, 22],
  [0, 1, 5, 12, 18, 23, 26, 28, 29, 30, 30, 30, 30, 30, 30, 30, 30, 30, 30, 30, 30, 30, 30, 30, 30, 30, 30, 30, 30, 30, 30],
  [0, 1, 6, 14, 23, 30, 35, 38, 40, 41, 42, 42, 42, 42, 42, 42, 42, 42, 42, 42, 42, 42, 42, 42, 42, 42, 42, 42, 42, 42, 42],
  [0, 1, 6, 16, 27, 37, 44, 49, 52, 54, 55, 56, 56, 56, 56, 56, 56, 56, 56, 56, 56, 56, 56, 56, 56, 56, 56, 56, 56, 56, 56],
  [0, 1, 7, 19, 34, 47, 58, 65, 70, 73, 75, 76, 77, 77, 77, 77, 77, 77, 77, 77, 77, 77, 77, 77, 77, 77, 77, 77, 77, 77, 77],
  [0, 1, 7, 21, 39, 57, 71, 82, 89, 94, 97, 99, 100, 101, 101, 101, 101, 101, 101, 101, 101, 101, 101, 101, 101, 101, 101, 101, 101, 101, 101],
  [0, 1, 8, 24, 47, 70, 90, 105, 116, 123, 128, 131, 133, 134, 135, 135, 135, 135, 135, 135, 135, 135, 135, 135, 135, 135, 135, 135, 135, 135, 135],
  [0, 1, 8, 27, 54, 84, 110, 131, 146, 157, 164, 169, 172, 174, 175, 176, 176, 176, 176, 176, 176, 176, 176, 176, 176, 176, 176, 176, 176, 176, 176],
  [0, 1, 9, 30, 64, 101, 136, 164, 186, 201, 212, 219, 224, 227, 229, 230, 231, 231, 231, 231, 231, 231, 231, 231, 231, 231, 231, 231, 231, 231, 231],
  [0, 1, 9, 33, 72, 119, 163, 201, 230, 252, 267, 278, 285, 290, 293, 295, 296, 297, 297, 297, 297, 297, 297, 297, 297, 297, 297, 297, 297, 297, 297],
  [0, 1, 10, 37, 84, 141, 199, 248, 288, 318, 340, 355, 366, 373, 378, 381, 383, 384, 385, 385, 385, 385, 385, 385, 385, 385, 385, 385, 385, 385, 385],
  [0, 1, 10, 40, 94, 164, 235, 300, 352, 393, 423, 445, 460, 471, 478, 483, 486, 488, 489, 490, 490, 490, 490, 490, 490, 490, 490, 490, 490, 490, 490],
  [0, 1, 11, 44, 108, 192, 282, 364, 434, 488, 530, 560, 582, 597, 608, 615, 620, 623, 625, 626, 627, 627, 627, 627, 627, 627, 627, 627, 627, 627, 627],
  [0, 1, 11, 48, 120, 221, 331, 436, 525, 598, 653, 695, 725, 747, 762, 773, 780, 785, 788, 790, 791, 792, 792, 792, 792, 792, 792, 792, 792, 792, 792],
  [0, 1, 12, 52, 136, 255, 391, 522, 638, 732, 807, 863, 905, 935, 957, 972, 983, 990, 995, 998, 1000, 1001, 1002, 1002, 1002, 1002, 1002, 1002, 1002, 1002, 1002],
  [0, 1, 12, 56, 150, 291, 454, 618, 764, 887, 984, 1060, 1116, 1158, 1188, 1210, 1225, 1236, 1243, 1248, 1251, 1253, 1254, 1255, 1255, 1255, 1255, 1255, 1255, 1255, 1255],
  [0, 1, 13, 61, 169, 333, 532, 733, 919, 1076, 1204, 1303, 1380, 1436, 1478, 1508, 1530, 1545, 1556, 1563, 1568, 1571, 1573, 1574, 1575, 1575, 1575, 1575, 1575, 1575, 1575],
  [0, 1, 13, 65, 185, 377, 612, 860, 1090, 1291, 1455, 1586, 1686, 1763, 1819, 1861, 1891, 1913, 1928, 1939, 1946, 1951, 1954, 1956, 1957, 1958, 1958, 1958, 1958, 1958, 1958],
  [0, 1, 14, 70, 206, 427, 709, 1009, 1297, 1549, 1761, 1930, 2063, 2164, 2241, 2297, 2339, 2369, 2391, 2406, 2417, 2424, 2429, 2432, 2434, 2435, 2436, 2436, 2436, 2436, 2436],
  [0, 1, 14, 75, 225, 480, 811, 1175, 1527, 1845, 2112, 2331, 2503, 2637, 2738, 2815, 2871, 2913, 2943, 2965, 2980, 2991, 2998, 3003, 3006, 3008, 3009, 3010, 3010, 3010, 3010],
  [0, 1, 15, 80, 249, 540, 931, 1367, 1801, 2194, 2534, 2812, 3036, 3210, 3345, 3446, 3523, 3579, 3621, 3651, 3673, 3688, 3699, 3706, 3711, 3714, 3716, 3717, 3718, 3718, 3718],
  [0, 1, 15, 85, 270, 603, 1057, 1579, 2104, 2592, 3015, 3370, 3655, 3882, 4057, 4192, 4293, 4370, 4426, 4468, 4498, 4520, 4535, 4546, 4553, 4558, 4561, 4563, 4564, 4565, 4565],
  [0, 1, 16, 91, 297, 674, 1206, 1824, 2462, 3060, 3590, 4035, 4401, 4691, 4920, 5096, 5231, 5332, 5409, 5465, 5507, 5537, 5559, 5574, 5585, 5592, 5597, 5600, 5602, 5603, 5604]]
def c (n m : Nat) : Int := ((ctab[n]?.getD [])[m]?.getD 0)
theorem f57_eq {F : Nat} {x a b : Int} : f57 F x a b = some (decide (a ≤ x ∧ x ≤ b)) := by
  unfold f57
  by_cases h : a ≤ x <;> simp [h]
end
section
theorem drop_cons {α : Type} {l : List α} {i : Nat} (h : i < l.length) : l.drop i = l[i] :: l.drop (i + 1) := List.drop_eq_getElem_cons h
end
section
theorem w64_nat {n : Nat} (h : n < 1000000000) : w64 (n : Int) = n := w64_in (by omega)
theorem w64_succ {n : Nat} (h : n < 1000000000) : w64 ((n : Int) + 1) = ((n + 1 : Nat) : Int) := by rw [w64_in (by omega)]; omega
theorem f102_eq {F : Nat} {x y : Int} : f102 F x y = some (decide (x < y)) := by
  unfold f102 f120
  rw [Option.bind_some, if_neg (by simp)]
def nt (l : List Int) (i : Nat) : Int := l[i]?.getD 0
theorem nt_get {l : List Int} {i : Nat} (h : i < l.length) : nt l i = l[i] := by unfold nt; rw [List.getElem?_eq_getElem h]; rfl
theorem ld {l : List Int} {i : Nat} (h : i < l.length) : l[0 + Int.toNat (i : Int)]? = some (nt l i) := by
  rw [Nat.zero_add, Int.toNat_natCast, nt_get h, List.getElem?_eq_getElem h]
theorem rq {α : Type} {i n : Nat} (h : i < n) {x : Option α} : req ((0 : Int) ≤ (i : Int) ∧ ((i : Int) : Int) < ((n : Nat) : Int)) x = x := req_pos (by omega)
theorem rs {α : Type} {l : List Int} {i : Nat} (h : i < l.length) {x : Option α} : req ((0 + Int.toNat (i : Int)) < List.length l) x = x := req_pos (by omega)
theorem rtt {α : Type} {l : List Int} {i j : Nat} {v : Int} (h : i < l.length) {x : Option α} : req ((0 + Int.toNat (i : Int)) < List.length (List.set l j v)) x = x := req_pos (by rw [List.length_set]; omega)
theorem wm {i : Nat} (h : 0 < i) (h2 : i < 1000000000) : w64 ((i : Int) - 1) = ((i - 1 : Nat) : Int) := by rw [w64_in (by omega)]; omega
theorem wsub {a b : Nat} (h : a ≤ b) (h2 : b < 1000000000) : w64 ((b : Int) - (a : Int)) = ((b - a : Nat) : Int) := by rw [w64_in (by omega)]; omega
theorem wadd {a b : Nat} (h : a < 1000000000) (h2 : b < 1000000000) : w64 ((a : Int) + (b : Int)) = ((a + b : Nat) : Int) := by rw [w64_in (by omega)]; omega
theorem wtwo {a : Nat} (h : a < 1000000000) : w64 (2 * (a : Int)) = ((2 * a : Nat) : Int) := by rw [w64_in (by omega)]; omega
/-- Two numbers change places. -/
def sw (l : List Int) (i j : Nat) : List Int := (l.set i (nt l j)).set j (nt l i)
theorem sw_eq {l : List Int} {i j : Nat} : List.set (List.set l (0 + Int.toNat (i : Int)) (nt l j)) (0 + Int.toNat (j : Int)) (nt l i) = sw l i j := by
  rw [Nat.zero_add, Nat.zero_add, Int.toNat_natCast, Int.toNat_natCast]; rfl
theorem sw_len {l : List Int} {i j : Nat} : (sw l i j).length = l.length := by simp [sw]
theorem nt_set {l : List Int} {i k : Nat} {v : Int} (h : i < l.length) : nt (l.set i v) k = if k = i then v else nt l k := by
  unfold nt
  rw [List.getElem?_set]
  by_cases e : k = i
  · subst e; rw [if_pos rfl, if_pos rfl, if_pos h]; rfl
  · rw [if_neg (fun h => e h.symm), if_neg e]
theorem nt_sw {l : List Int} {i j k : Nat} (hi : i < l.length) (hj : j < l.length) : nt (sw l i j) k = if k = j then nt l i else if k = i then nt l j else nt l k := by
  unfold sw
  rw [nt_set (by simpa using hj), nt_set hi]
theorem sw_j {l : List Int} {i j : Nat} (hi : i < l.length) (hj : j < l.length) : nt (sw l i j) j = nt l i := by rw [nt_sw hi hj, if_pos rfl]
theorem sw_i {l : List Int} {i j : Nat} (hi : i < l.length) (hj : j < l.length) : nt (sw l i j) i = nt l j := by
  rw [nt_sw hi hj]
  by_cases h : i = j
  · subst h; rw [if_pos rfl]
  · rw [if_neg h, if_pos rfl]
theorem sw_o {l : List Int} {i j k : Nat} (hi : i < l.length) (hj : j < l.length) (h1 : k ≠ i) (h2 : k ≠ j) : nt (sw l i j) k = nt l k := by
  rw [nt_sw hi hj, if_neg h2, if_neg h1]
/-- Only what lies from a to b is moved. -/
structure Mv (a b : Nat) (l r : List Int) : Prop where
  perm : r.Perm l
  out : ∀ i, i < a ∨ b ≤ i → nt r i = nt l i
  src : ∀ i, a ≤ i → i < b → ∃ j, a ≤ j ∧ j < b ∧ nt r i = nt l j
theorem Mv.len {a b : Nat} {l r : List Int} (h : Mv a b l r) : r.length = l.length := h.perm.length_eq
theorem Mv.refl {a b : Nat} {l : List Int} : Mv a b l l := ⟨List.Perm.refl l, fun _ _ => rfl, fun i h1 h2 => ⟨i, h1, h2, rfl⟩⟩
theorem Mv.trans {a b : Nat} {l r t : List Int} (h : Mv a b l r) (k : Mv a b r t) : Mv a b l t :=
  ⟨k.perm.trans h.perm, fun i hi => (k.out i hi).trans (h.out i hi), fun i h1 h2 => by
    obtain ⟨j, j1, j2, j3⟩ := k.src i h1 h2
    obtain ⟨m, m1, m2, m3⟩ := h.src j j1 j2
    exact ⟨m, m1, m2, j3.trans m3⟩⟩
theorem Mv.mono {a b c d : Nat} {l r : List Int} (h : Mv a b l r) (h1 : c ≤ a) (h2 : b ≤ d) : Mv c d l r :=
  ⟨h.perm, fun i hi => h.out i (by omega), fun i i1 i2 => by
    by_cases hi : a ≤ i ∧ i < b
    · obtain ⟨j, j1, j2, j3⟩ := h.src i hi.1 hi.2
      exact ⟨j, by omega, by omega, j3⟩
    · exact ⟨i, i1, i2, h.out i (by omega)⟩⟩
theorem Mv.sw {a b i j : Nat} {l : List Int} (hi : a ≤ i ∧ i < b) (hj : a ≤ j ∧ j < b) (hb : b ≤ l.length) : Mv a b l (sw l i j) := by
  refine ⟨?_, fun k hk => ?_, fun k k1 k2 => ?_⟩
  · unfold Bunch.sw
    rw [nt_get (by omega), nt_get (by omega)]
    exact List.set_set_perm (by omega) (by omega)
  · exact sw_o (by omega) (by omega) (by omega) (by omega)
  · rw [nt_sw (by omega) (by omega)]
    by_cases h1 : k = j
    · rw [if_pos h1]; exact ⟨i, hi.1, hi.2, rfl⟩
    · rw [if_neg h1]
      by_cases h2 : k = i
      · rw [if_pos h2]; exact ⟨j, hj.1, hj.2, rfl⟩
      · rw [if_neg h2]; exact ⟨k, k1, k2, rfl⟩
/-- In order from a to b. -/
def So (a b : Nat) (l : List Int) : Prop := ∀ i j, a ≤ i → i ≤ j → j < b → nt l i ≤ nt l j
/-- In order but for the number at j, which is less than what follows. -/
structure Ins (a j m : Nat) (l : List Int) : Prop where
  so : ∀ p q, a ≤ p → p ≤ q → q < m → p ≠ j → q ≠ j → nt l p ≤ nt l q
  lt : ∀ q, j < q → q < m → nt l j ≤ nt l q
theorem Ins.step {a j m : Nat} {l : List Int} (h : Ins a j m l) (hj : a < j) (hm : j < m) (hl : m ≤ l.length) (hlt : nt l j < nt l (j - 1)) : Ins a (j - 1) m (sw l j (j - 1)) := by
  have e1 : nt (sw l j (j - 1)) (j - 1) = nt l j := sw_j (by omega) (by omega)
  have e2 : nt (sw l j (j - 1)) j = nt l (j - 1) := sw_i (by omega) (by omega)
  have e3 : ∀ k, k ≠ j → k ≠ j - 1 → nt (sw l j (j - 1)) k = nt l k := fun k h1 h2 => sw_o (by omega) (by omega) h1 h2
  refine ⟨fun p q p1 p2 p3 p4 p5 => ?_, fun q q1 q2 => ?_⟩
  · by_cases hp : p = j
    · by_cases hq : q = j
      · subst hp; subst hq; exact Int.le_refl _
      · rw [hp, e2, e3 q hq p5]
        exact h.so (j - 1) q (by omega) (by omega) p3 (by omega) hq
    · by_cases hq : q = j
      · rw [hq, e2, e3 p hp p4]
        exact h.so p (j - 1) (by omega) (by omega) (by omega) hp (by omega)
      · rw [e3 p hp p4, e3 q hq p5]
        exact h.so p q p1 p2 p3 hp hq
  · rw [e1]
    by_cases hq : q = j
    · rw [hq, e2]; omega
    · rw [e3 q hq (by omega)]
      exact h.lt q (by omega) q2
theorem Ins.stop {a j m : Nat} {l : List Int} (h : Ins a j m l) (hs : j = a ∨ ¬ nt l j < nt l (j - 1)) (ha : a ≤ j) : So a m l := fun p q p1 p2 p3 => by
  by_cases hp : p = j
  · by_cases hq : q = j
    · subst hp; subst hq; exact Int.le_refl _
    · rw [hp]; exact h.lt q (by omega) p3
  · by_cases hq : q = j
    · rcases hs with hs | hs
      · omega
      · subst hq
        by_cases he : p = q - 1
        · subst he; omega
        · have := h.so p (q - 1) p1 (by omega) (by omega) hp (by omega)
          omega
    · exact h.so p q p1 p2 p3 hp hq
theorem Ins.of {a m : Nat} {l : List Int} (h : So a m l) : Ins a m (m + 1) l := ⟨fun p q p1 p2 p3 _ p5 => h p q p1 p2 (by omega), fun q q1 q2 => by omega⟩
theorem f96_in {F n a b i m : Nat} (hn : n < 100000) : ∀ (k j : Nat) (l : List Int), l.length = n → a ≤ j → j < m → m ≤ n → j < k + a → Ins a j m l → ∃ r, f96_p5_1 F 0 n a b i k j l = some r ∧ Mv a m l r ∧ So a m r := by
  intro k
  induction k with
  | zero => intro j l _ _ _ _ h; omega
  | succ k ih =>
    intro j l hl h1 h2 h3 h4 hi
    unfold f96_p5_1
    by_cases hj : a < j
    · rw [if_pos (by simp; omega), wm (by omega) (by omega), rq (by omega), ld (by omega), Option.bind_some, rq (by omega), ld (by omega), Option.bind_some, f102_eq, Option.bind_some]
      by_cases hlt : nt l j < nt l (j - 1)
      · rw [if_pos (decide_eq_true hlt), rs (by omega), rtt (by omega), sw_eq]
        obtain ⟨r, r1, r2, r3⟩ := ih (j - 1) (sw l j (j - 1)) (by rw [sw_len, hl]) (by omega) (by omega) h3 (by omega) (hi.step hj h2 (by omega) hlt)
        exact ⟨r, r1, (Mv.sw ⟨h1, h2⟩ ⟨by omega, by omega⟩ (by omega)).trans r2, r3⟩
      · rw [if_neg (by simpa using hlt)]
        exact ⟨l, rfl, Mv.refl, hi.stop (Or.inr hlt) h1⟩
    · rw [if_neg (by simp; omega)]
      exact ⟨l, rfl, Mv.refl, hi.stop (Or.inl (by omega)) h1⟩
theorem f96_out {F n a b : Nat} (hn : n < 100000) (hF : n < F) (hb : b ≤ n) : ∀ (k i : Nat) (l : List Int), l.length = n → a ≤ i → b < k + i → i ≤ b → So a i l → ∃ r, f96_p1 F 0 n a b k i l = some r ∧ Mv a b l r ∧ So a b r := by
  intro k
  induction k with
  | zero => intro i l _ _ h h1; omega
  | succ k ih =>
    intro i l hl h1 h2 h3 h4
    unfold f96_p1
    by_cases hi : i < b
    · obtain ⟨r, r1, r2, r3⟩ := f96_in (F := F) (n := n) (a := a) (b := b) (i := i) (m := i + 1) hn F i l hl h1 (by omega) (by omega) (by omega) (Ins.of h4)
      obtain ⟨t, t1, t2, t3⟩ := ih (i + 1) r (by rw [r2.len, hl]) (by omega) (by omega) (by omega) r3
      rw [if_pos (by simp; omega), r1, Option.bind_some, w64_succ (by omega)]
      exact ⟨t, t1, (r2.mono (by omega) (by omega)).trans t2, t3⟩
    · rw [if_neg (by simp; omega)]
      have : i = b := by omega
      subst this
      exact ⟨l, rfl, Mv.refl, h4⟩
theorem f96_srt {F n a b : Nat} (hn : n < 100000) (hF : n < F) (hab : a ≤ b) (hb : b ≤ n) {l : List Int} (hl : l.length = n) : ∃ r, f96 F 0 n a b l = some r ∧ Mv a b l r ∧ So a b r := by
  unfold f96
  rw [w64_succ (by omega)]
  by_cases h : a = b
  · subst h
    obtain ⟨k, rfl⟩ : ∃ k, F = k + 1 := ⟨F - 1, by omega⟩
    refine ⟨l, ?_, Mv.refl, fun i j h1 h2 h3 => by omega⟩
    unfold f96_p1
    rw [if_neg (by simp; omega)]; rfl
  · obtain ⟨r, r1, r2, r3⟩ := f96_out (F := F) (a := a) (b := b) hn hF hb F (a + 1) l hl (by omega) (by omega) (by omega) (fun i j h1 h2 h3 => by
      have : i = j := by omega
      subst this; exact Int.le_refl _)
    rw [r1]
    exact ⟨r, rfl, r2, r3⟩
/-- A heap from lo to hi (numbers from f on). -/
def Hp (f lo hi : Nat) (l : List Int) : Prop := ∀ p c, lo ≤ p → (c = 2 * p + 1 ∨ c = 2 * p + 2) → c < hi → nt l (f + c) ≤ nt l (f + p)
structure HpX (f lo hi t : Nat) (l : List Int) : Prop where
  hp : ∀ p c, lo ≤ p → p ≠ t → (c = 2 * p + 1 ∨ c = 2 * p + 2) → c < hi → nt l (f + c) ≤ nt l (f + p)
  up : ∀ p c, lo ≤ p → (t = 2 * p + 1 ∨ t = 2 * p + 2) → (c = 2 * t + 1 ∨ c = 2 * t + 2) → c < hi → nt l (f + c) ≤ nt l (f + p)
theorem HpX.step {f lo hi t c : Nat} {l : List Int} (h : HpX f lo hi t l) (hlo : lo ≤ t) (hc : c = 2 * t + 1 ∨ c = 2 * t + 2) (hi2 : c < hi) (hl : f + hi ≤ l.length)
    (hbig : ∀ d, (d = 2 * t + 1 ∨ d = 2 * t + 2) → d < hi → nt l (f + d) ≤ nt l (f + c)) (hlt : nt l (f + t) < nt l (f + c)) : HpX f lo hi c (sw l (f + t) (f + c)) := by
  have e1 : nt (sw l (f + t) (f + c)) (f + c) = nt l (f + t) := sw_j (by omega) (by omega)
  have e2 : nt (sw l (f + t) (f + c)) (f + t) = nt l (f + c) := sw_i (by omega) (by omega)
  have e3 : ∀ k, k ≠ t → k ≠ c → nt (sw l (f + t) (f + c)) (f + k) = nt l (f + k) := fun k h1 h2 => sw_o (by omega) (by omega) (by omega) (by omega)
  refine ⟨fun p d p1 p2 p3 p4 => ?_, fun p d p1 p2 p3 p4 => ?_⟩
  · by_cases hp : p = t
    · subst hp
      rw [e2]
      by_cases hd : d = c
      · rw [hd, e1]; omega
      · rw [e3 d (by omega) hd]; exact hbig d p3 p4
    · rw [e3 p hp p2]
      by_cases hd : d = t
      · rw [hd, e2]; exact h.up p c p1 (by omega) hc hi2
      · rw [e3 d hd (by omega)]
        exact h.hp p d p1 hp p3 p4
  · have : p = t := by omega
    subst this
    rw [e2, e3 d (by omega) (by omega)]
    exact h.hp c d (by omega) (by omega) p3 p4
theorem HpX.stop {f lo hi t : Nat} {l : List Int} (h : HpX f lo hi t l) (hs : ∀ c, (c = 2 * t + 1 ∨ c = 2 * t + 2) → c < hi → nt l (f + c) ≤ nt l (f + t)) : Hp f lo hi l := fun p c p1 p2 p3 => by
  by_cases hp : p = t
  · subst hp; exact hs c p2 p3
  · exact h.hp p c p1 hp p2 p3
def out2 : f115_p1_R → List Int
  | .c0 l => l
  | .c1 l => l
theorem f115_in {F n f lo hi : Nat} (hn : n < 100000) (hh : f + hi ≤ n) : ∀ (k t : Nat) (l : List Int), l.length = n → lo ≤ t → hi < k + t ∧ t ≤ hi → HpX f lo hi t l → ∃ z, f115_p1 F 0 n hi f k t l = some z ∧ Mv f (f + hi) l (out2 z) ∧ Hp f lo hi (out2 z) := by
  intro k
  induction k with
  | zero =>
    intro t l hl h1 h2 h
    omega
  | succ k ih =>
    intro t l hl h1 h2 h
    unfold f115_p1
    by_cases ht : t < hi
    · rw [wtwo (by omega), w64_succ (by omega), w64_succ (by omega)]
      by_cases hc : 2 * t + 1 < hi
      · rw [if_neg (by simp; omega)]
        by_cases hc2 : 2 * t + 1 + 1 < hi
        · rw [if_pos (by simp; omega), wadd (by omega) (by omega), w64_succ (by omega), rq (by omega), ld (by omega), Option.bind_some, rq (by omega), ld (by omega), Option.bind_some, f102_eq, Option.bind_some, wadd (by omega) (by omega)]
          obtain ⟨c, ec, c1, c2⟩ : ∃ c : Nat, f115_p4_1 F 0 n hi f t (decide (nt l (f + (2 * t + 1)) < nt l (f + (2 * t + 1) + 1))) l = some (c : Int) ∧ (c = 2 * t + 1 ∨ c = 2 * t + 2) ∧ (∀ d, (d = 2 * t + 1 ∨ d = 2 * t + 2) → d < hi → nt l (f + d) ≤ nt l (f + c)) := by
            unfold f115_p4_1
            rw [wtwo (by omega), w64_succ (by omega), w64_succ (by omega)]
            by_cases hlt : nt l (f + (2 * t + 1)) < nt l (f + (2 * t + 1) + 1)
            · refine ⟨2 * t + 1 + 1, by rw [if_pos (decide_eq_true hlt)], Or.inr (by omega), fun d hd _ => ?_⟩
              rw [← Nat.add_assoc] at hlt ⊢
              rcases hd with rfl | rfl
              · rw [← Nat.add_assoc] at *; omega
              · exact Int.le_refl _
            · refine ⟨2 * t + 1, by rw [if_neg (by simpa using hlt)], Or.inl rfl, fun d hd _ => ?_⟩
              rcases hd with rfl | rfl
              · exact Int.le_refl _
              · have : f + (2 * t + 2) = f + (2 * t + 1) + 1 := by omega
                rw [this]; omega
          have hchi : c < hi := by omega
          rw [ec, Option.bind_some, wadd (by omega) (by omega), rq (by omega), ld (by omega), Option.bind_some, rq (by omega), ld (by omega), Option.bind_some, f102_eq, Option.bind_some]
          by_cases hlt : nt l (f + t) < nt l (f + c)
          · rw [if_pos (decide_eq_true hlt), rs (by omega), rtt (by omega), sw_eq]
            obtain ⟨z, z1, z2, z3⟩ := ih c (sw l (f + t) (f + c)) (by rw [sw_len, hl]) (by omega) (by omega) (h.step h1 c1 hchi (by omega) c2 hlt)
            exact ⟨z, z1, (Mv.sw (by omega) (by omega) (by omega)).trans z2, z3⟩
          · rw [if_neg (by simpa using hlt)]
            exact ⟨_, rfl, Mv.refl, h.stop fun d hd hd2 => by have := c2 d hd hd2; show nt l _ ≤ nt l _; omega⟩
        · rw [if_neg (by simp; omega), wadd (by omega) (by omega), wadd (by omega) (by omega), rq (by omega), ld (by omega), Option.bind_some, rq (by omega), ld (by omega), Option.bind_some, f102_eq, Option.bind_some]
          by_cases hlt : nt l (f + t) < nt l (f + (2 * t + 1))
          · rw [if_pos (decide_eq_true hlt), rs (by omega), rtt (by omega), sw_eq]
            obtain ⟨z, z1, z2, z3⟩ := ih (2 * t + 1) (sw l (f + t) (f + (2 * t + 1))) (by rw [sw_len, hl]) (by omega) (by omega) (h.step h1 (Or.inl rfl) hc (by omega) (fun d hd hd2 => by
              have : d = 2 * t + 1 := by omega
              subst this; exact Int.le_refl _) hlt)
            exact ⟨z, z1, (Mv.sw (by omega) (by omega) (by omega)).trans z2, z3⟩
          · rw [if_neg (by simpa using hlt)]
            exact ⟨_, rfl, Mv.refl, h.stop fun d hd hd2 => by
              have : d = 2 * t + 1 := by omega
              subst this; show nt l _ ≤ nt l _; omega⟩
      · rw [if_pos (by simp; omega)]
        exact ⟨_, rfl, Mv.refl, h.stop fun d hd hd2 => by omega⟩
    · rw [if_pos (by rw [decide_eq_true_eq, w64_in (n := 2 * (t : Int)) (by omega), w64_in (n := 2 * (t : Int) + 1) (by omega)]; omega)]
      exact ⟨_, rfl, Mv.refl, h.stop fun d hd hd2 => by omega⟩
theorem f115_eq {F n f lo hi : Nat} (hn : n < 100000) (hF : n < F) (hh : f + hi ≤ n) (hlh : lo ≤ hi) {l : List Int} (hl : l.length = n) (h : HpX f lo hi lo l) : ∃ r, f115 F 0 n lo hi f l = some r ∧ Mv f (f + hi) l r ∧ Hp f lo hi r := by
  obtain ⟨z, z1, z2, z3⟩ := f115_in (F := F) hn hh F lo l hl (Nat.le_refl _) (by omega) h
  unfold f115
  rw [z1, Option.bind_some]
  cases z with
  | c0 x => exact ⟨x, rfl, z2, z3⟩
  | c1 x => exact ⟨x, rfl, z2, z3⟩
theorem f97_up {F n a b : Nat} (hn : n < 100000) (hF : n < F) (hab : a ≤ b) (hb : b ≤ n) : ∀ (k i : Nat) (l : List Int), l.length = n → i < k ∧ i ≤ b - a → Hp a i (b - a) l → ∃ r, f97_p1 F 0 n a b k ((i : Int) - 1) l = some r ∧ Mv a b l r ∧ Hp a 0 (b - a) r := by
  intro k
  induction k with
  | zero => intro i l _ h; omega
  | succ k ih =>
    intro i l hl h1 h
    unfold f97_p1
    match i with
    | 0 =>
      rw [if_neg (by simp)]
      exact ⟨l, rfl, Mv.refl, h⟩
    | i + 1 =>
      have e : (((i + 1 : Nat) : Int) - 1) = (i : Int) := by omega
      obtain ⟨r, r1, r2, r3⟩ := f115_eq (F := F) (f := a) (lo := i) (hi := b - a) hn hF (by omega) (by omega) hl ⟨fun p c p1 p2 p3 p4 => h p c (by omega) p3 p4, fun p c p1 p2 p3 p4 => by omega⟩
      obtain ⟨t, t1, t2, t3⟩ := ih i r (by rw [r2.len, hl]) (by omega) r3
      rw [e, if_pos (by simp), wsub hab (by omega), r1, Option.bind_some, show w64 ((i : Int) - 1) = (i : Int) - 1 from w64_in (by omega), t1]
      rw [show a + (b - a) = b by omega] at r2
      exact ⟨t, rfl, r2.trans t2, t3⟩
theorem Hp.top {f hi : Nat} {l : List Int} (h : Hp f 0 hi l) : ∀ c, c < hi → nt l (f + c) ≤ nt l (f + 0) := by
  intro c
  induction c using Nat.strongRecOn with
  | ind c ih =>
    intro hc
    by_cases h0 : c = 0
    · subst h0; exact Int.le_refl _
    · have h1 := h ((c - 1) / 2) c (by omega) (by omega) hc
      have h2 := ih ((c - 1) / 2) (by omega) (by omega)
      omega
theorem f97_dn {F n a b : Nat} (hn : n < 100000) (hF : n < F) (hab : a ≤ b) (hb : b ≤ n) : ∀ (k i : Nat) (l : List Int), l.length = n → a + i ≤ b → i < k → Hp a 0 i l → So (a + i) b l → (∀ p q, a ≤ p → p < a + i → a + i ≤ q → q < b → nt l p ≤ nt l q) →
    ∃ r, f97_p5 F 0 n a k ((i : Int) - 1) l = some r ∧ Mv a b l r ∧ So a b r := by
  intro k
  induction k with
  | zero => intro i l _ _ h; omega
  | succ k ih =>
    intro i l hl hi h1 h h2 h3
    unfold f97_p5
    match i with
    | 0 =>
      rw [if_neg (by simp)]
      exact ⟨l, rfl, Mv.refl, h2⟩
    | i + 1 =>
      have e : (((i + 1 : Nat) : Int) - 1) = (i : Int) := by omega
      have htop := h.top
      have e1 : nt (sw l a (a + i)) (a + i) = nt l a := sw_j (by omega) (by omega)
      have e2 : nt (sw l a (a + i)) a = nt l (a + i) := sw_i (by omega) (by omega)
      have e3 : ∀ k, k ≠ a → k ≠ a + i → nt (sw l a (a + i)) k = nt l k := fun k h1 h2 => sw_o (by omega) (by omega) h1 h2
      have g := Mv.sw (l := l) (a := a) (b := b) (i := a) (j := a + i) (by omega) (by omega) (by omega)
      obtain ⟨r, r1, r2, r3⟩ := f115_eq (F := F) (f := a) (lo := 0) (hi := i) hn hF (by omega) (by omega) (l := sw l a (a + i)) (by rw [sw_len, hl]) ⟨fun p c p1 p2 p3 p4 => by
        rw [e3 (a + c) (by omega) (by omega), e3 (a + p) (by omega) (by omega)]
        exact h p c p1 p3 (by omega), fun p c p1 p2 p3 p4 => by omega⟩
      have hle : ∀ p, a ≤ p → p < a + i → nt r p ≤ nt l a := fun p p1 p2 => by
        obtain ⟨j, j1, j2, j3⟩ := r2.src p p1 p2
        rw [j3]
        by_cases hj : j = a
        · rw [hj, e2]; have := htop i (by omega); exact this
        · rw [e3 j hj (by omega)]
          have := htop (j - a) (by omega)
          rw [show a + (j - a) = j by omega] at this
          exact this
      have hge : ∀ q, a + i ≤ q → q < b → nt r q = if q = a + i then nt l a else nt l q := fun q q1 q2 => by
        rw [r2.out q (by omega)]
        by_cases hq : q = a + i
        · rw [if_pos hq, hq, e1]
        · rw [if_neg hq, e3 q (by omega) hq]
      have hla : ∀ q, a + (i + 1) ≤ q → q < b → nt l a ≤ nt l q := fun q q1 q2 => h3 a q (by omega) (by omega) q1 q2
      obtain ⟨t, t1, t2, t3⟩ := ih i r (by rw [r2.len, sw_len, hl]) (by omega) (by omega) r3 (fun p q p1 p2 p3 => by
        rw [hge p p1 (by omega), hge q (by omega) p3]
        by_cases hp : p = a + i
        · rw [if_pos hp]
          by_cases hq : q = a + i
          · rw [if_pos hq]; exact Int.le_refl _
          · rw [if_neg hq]; exact hla q (by omega) p3
        · rw [if_neg hp, if_neg (by omega)]
          exact h2 p q (by omega) p2 p3) (fun p q p1 p2 p3 p4 => by
        have h5 := hle p p1 p2
        rw [hge q p3 p4]
        by_cases hq : q = a + i
        · rw [if_pos hq]; exact h5
        · rw [if_neg hq]
          have := hla q (by omega) p4
          omega)
      rw [e, if_pos (by simp), wadd (by omega) (by omega), rq (by omega), ld (by omega), Option.bind_some, rq (by omega), ld (by omega), Option.bind_some, rs (by omega), rtt (by omega), sw_eq]
      rw [show f115 F 0 n 0 i a (sw l a (a + i)) = some r from r1, Option.bind_some, show w64 ((i : Int) - 1) = (i : Int) - 1 from w64_in (by omega), t1]
      exact ⟨t, rfl, (g.trans (r2.mono (by omega) (by omega))).trans t2, t3⟩
theorem f97_srt {F n a b : Nat} (hn : n < 100000) (hF : n < F) (hab : a < b) (hb : b ≤ n) {l : List Int} (hl : l.length = n) : ∃ r, f97 F 0 n a b l = some r ∧ Mv a b l r ∧ So a b r := by
  unfold f97
  have e1 : w64 (Int.tdiv (w64 ((w64 ((b : Int) - (a : Int))) - 1)) 2) = (((b - a - 1) / 2 + 1 : Nat) : Int) - 1 := by
    rw [wsub (by omega) (by omega), wm (by omega) (by omega), Int.tdiv_eq_ediv_of_nonneg (by omega), w64_in (by omega)]; omega
  have e2 : w64 ((w64 ((b : Int) - (a : Int))) - 1) = ((b - a : Nat) : Int) - 1 := by
    rw [wsub (by omega) (by omega), w64_in (by omega)]
  obtain ⟨r, r1, r2, r3⟩ := f97_up (F := F) (a := a) (b := b) hn hF (by omega) hb F ((b - a - 1) / 2 + 1) l hl (by omega) (fun p c p1 p2 p3 => by omega)
  obtain ⟨t, t1, t2, t3⟩ := f97_dn (F := F) (a := a) (b := b) hn hF (by omega) hb F (b - a) r (by rw [r2.len, hl]) (by omega) (by omega) r3 (fun p q p1 p2 p3 => by omega) (fun p q p1 p2 p3 p4 => by omega)
  rw [e1, r1, Option.bind_some, e2, t1]
  exact ⟨t, rfl, r2.trans t2, t3⟩
end
section
theorem u64_nat {m : Nat} (h : m < 1000000000) : IntKind.wrap .u64 ((m : Nat) : Int) = (m : Int) := by
  have e : IntKind.wrap .u64 ((m : Nat) : Int) = (m : Int) % 18446744073709551616 := rfl
  rw [e]; omega
theorem and_u {x : Int} {m : Nat} (h : m < 1000000000) : ∃ r : Nat, iAnd .u64 x (m : Int) = (r : Int) ∧ r ≤ m := by
  unfold iAnd
  refine ⟨(BitVec.ofInt 64 x &&& BitVec.ofInt 64 (m : Int)).toNat, ?_, ?_⟩
  · have h1 : (BitVec.ofInt 64 x &&& BitVec.ofInt 64 (m : Int)).toNat ≤ m := by
      rw [BitVec.toNat_and, BitVec.ofInt_natCast, BitVec.toNat_ofNat, Nat.mod_eq_of_lt (by omega)]
      exact Nat.and_le_right
    exact u64_nat (Nat.lt_of_le_of_lt h1 h)
  · rw [BitVec.toNat_and, BitVec.ofInt_natCast, BitVec.toNat_ofNat, Nat.mod_eq_of_lt (by omega)]
    exact Nat.and_le_right
/-- What the next power of two is needed for. -/
def Pow (F N : Nat) : Prop := ∀ n : Nat, 0 < n → n ≤ N → ∃ m : Nat, f116 F (n : Int) = some (m : Int) ∧ 1 ≤ m ∧ m ≤ 2 * n
def powOk (F N : Nat) : Bool := (List.range N).all fun (n : Nat) => match f116 F ((n + 1 : Nat) : Int) with | some m => decide (1 ≤ m ∧ m ≤ 2 * ((n + 1 : Nat) : Int)) | none => false
theorem Pow.of {F N : Nat} (h : powOk F N = true) : Pow F N := fun n h0 hn => by
  have := (List.all_eq_true.1 h) (n - 1) (List.mem_range.2 (by omega))
  rw [show n - 1 + 1 = n by omega] at this
  cases e : f116 F (n : Int) with
  | none => rw [e] at this; cases this
  | some m =>
    rw [e] at this
    have := of_decide_eq_true this
    exact ⟨m.toNat, by rw [Int.toNat_of_nonneg (by omega)], by omega, by omega⟩
theorem pow2000 : Pow 2000 60 := Pow.of (by decide +kernel)
theorem f98_in {F n a b m : Nat} (hn : n < 100000) (hab : a + 8 ≤ b) (hb : b ≤ n) (hm : 1 ≤ m ∧ m ≤ 2 * (b - a)) : ∀ (k i : Nat) (l : List Int) (x : Int), l.length = n → a ≤ i → i ≤ a + (b - a) / 4 * 2 + 2 → a + (b - a) / 4 * 2 + 2 < k + i → ∃ r, f98_p2 F 0 n a b m k i l x = some r ∧ Mv a b l r := by
  intro k
  induction k with
  | zero => intro i l x _ _ _ h; omega
  | succ k ih =>
    intro i l x hl h1 h2 h3
    have e1 : w64 ((w64 ((a : Int) + (w64 ((w64 (Int.tdiv (w64 ((b : Int) - a)) 4)) * 2)))) + 1) = ((a + (b - a) / 4 * 2 + 1 : Nat) : Int) := by
      rw [wsub (by omega) (by omega), Int.tdiv_eq_ediv_of_nonneg (by omega), w64_in (n := ((b - a : Nat) : Int) / 4) (by omega), w64_in (n := ((b - a : Nat) : Int) / 4 * 2) (by omega), w64_in (n := (a : Int) + _) (by omega), w64_in (by omega)]; omega
    unfold f98_p2
    rw [e1]
    by_cases hi : i ≤ a + (b - a) / 4 * 2 + 1
    · rw [if_pos (by simp; omega)]
      unfold f117
      rw [Option.bind_some]
      generalize iXor .u64 _ _ = y
      dsimp only
      have e2 : IntKind.wrap .u64 ((m : Int) - 1) = ((m - 1 : Nat) : Int) := by
        rw [show (m : Int) - 1 = ((m - 1 : Nat) : Int) by omega, u64_nat (by omega)]
      obtain ⟨o, o1, o2⟩ : ∃ o : Nat, f98_p5_1 F 0 n a b m i y l y = some (o : Int) ∧ o < b - a := by
        obtain ⟨r, r1, r2⟩ := and_u (x := y) (m := m - 1) (by omega)
        unfold f98_p5_1
        rw [e2, r1, wsub (by omega) (by omega), show w64 (r : Int) = (r : Int) from w64_nat (by omega)]
        by_cases hr : b - a ≤ r
        · rw [if_pos (by simp; omega), wsub hr (by omega)]
          exact ⟨r - (b - a), rfl, by omega⟩
        · rw [if_neg (by simp; omega)]
          exact ⟨r, rfl, by omega⟩
      rw [o1, Option.bind_some, wadd (by omega) (by omega), rq (by omega), ld (by omega), Option.bind_some, rq (by omega), ld (by omega), Option.bind_some, rs (by omega), rtt (by omega), sw_eq, w64_succ (by omega)]
      obtain ⟨r, r1, r2⟩ := ih (i + 1) (sw l i (a + o)) y (by rw [sw_len, hl]) (by omega) (by omega) (by omega)
      exact ⟨r, r1, (Mv.sw (by omega) (by omega) (by omega)).trans r2⟩
    · rw [if_neg (by simp; omega)]
      exact ⟨l, rfl, Mv.refl⟩
theorem f98_rg {F n a b : Nat} (hn : n < 100000) (hF : n < F) (hp : Pow F n) (hab : a ≤ b) (hb : b ≤ n) {l : List Int} (hl : l.length = n) : ∃ r, f98 F 0 n a b l = some r ∧ Mv a b l r := by
  unfold f98 f98_p0
  rw [wsub hab (by omega)]
  by_cases h : 8 ≤ b - a
  · obtain ⟨m, m1, m2, m3⟩ := hp (b - a) (by omega) (by omega)
    have e1 : w64 ((w64 ((a : Int) + (w64 ((w64 (Int.tdiv ((b - a : Nat) : Int) 4)) * 2)))) - 1) = ((a + (b - a) / 4 * 2 - 1 : Nat) : Int) := by
      rw [Int.tdiv_eq_ediv_of_nonneg (by omega), w64_in (n := ((b - a : Nat) : Int) / 4) (by omega), w64_in (n := ((b - a : Nat) : Int) / 4 * 2) (by omega), w64_in (n := (a : Int) + _) (by omega), w64_in (by omega)]; omega
    obtain ⟨r, r1, r2⟩ := f98_in (F := F) (n := n) (a := a) (b := b) (m := m) hn (by omega) hb ⟨m2, m3⟩ F (a + (b - a) / 4 * 2 - 1) l (IntKind.wrap .u64 ((b - a : Nat) : Int)) hl (by omega) (by omega) (by omega)
    rw [if_pos (by simp; omega), m1, Option.bind_some, e1, r1]
    exact ⟨r, rfl, r2⟩
  · rw [if_neg (by simp; omega)]
    exact ⟨l, rfl, Mv.refl⟩
/-- Three places in order: each answer is one of those that were asked. -/
theorem f124_eq {F n i j : Nat} {l : List Int} {s : Int} (hl : l.length = n) (hi : i < n) (hj : j < n) : ∃ (p q : Nat) (t : Int), f124 F 0 n i j l s = some ((p : Int), (q : Int), t) ∧ ((p = i ∧ q = j) ∨ (p = j ∧ q = i)) := by
  unfold f124
  rw [rq hj, ld (by omega), Option.bind_some, rq hi, ld (by omega), Option.bind_some, f102_eq, Option.bind_some]
  by_cases h : nt l j < nt l i
  · rw [if_pos (decide_eq_true h)]; exact ⟨j, i, _, rfl, Or.inr ⟨rfl, rfl⟩⟩
  · rw [if_neg (by simpa using h)]; exact ⟨i, j, _, rfl, Or.inl ⟨rfl, rfl⟩⟩
theorem f119_eq {F n i j m : Nat} {l : List Int} {s : Int} (hl : l.length = n) (hi : i < n) (hj : j < n) (hm : m < n) : ∃ (p : Nat) (t : Int), f119 F 0 n i j m l s = some ((p : Int), t) ∧ (p = i ∨ p = j ∨ p = m) := by
  unfold f119
  obtain ⟨p, q, t, e, h⟩ := f124_eq (F := F) (s := s) hl hi hj
  rw [e, Option.bind_some]
  dsimp only
  obtain ⟨p2, q2, t2, e2, h2⟩ := f124_eq (F := F) (i := q) (j := m) (s := t) hl (by omega) hm
  rw [e2, Option.bind_some]
  dsimp only
  obtain ⟨p3, q3, t3, e3, h3⟩ := f124_eq (F := F) (i := p) (j := p2) (s := t2) hl (by omega) (by omega)
  rw [e3, Option.bind_some]
  exact ⟨q3, t3, rfl, by omega⟩
theorem f118_eq {F n i : Nat} {l : List Int} {s : Int} (hl : l.length = n) (hn : n < 100000) (hi : 0 < i) (hi2 : i + 1 < n) : ∃ (p : Nat) (t : Int), f118 F 0 n i l s = some ((p : Int), t) ∧ i - 1 ≤ p ∧ p ≤ i + 1 := by
  unfold f118
  rw [wm hi (by omega), w64_succ (by omega)]
  obtain ⟨p, t, e, h⟩ := f119_eq (F := F) (i := i - 1) (j := i) (m := i + 1) (s := s) hl (by omega) (by omega) hi2
  rw [e]
  exact ⟨p, t, rfl, by omega⟩
theorem quart {a b c : Nat} (hc : c ≤ 3) (hab : a ≤ b) (hb : b < 100000) : w64 ((a : Int) + (w64 ((w64 (Int.tdiv ((b - a : Nat) : Int) 4)) * (c : Int)))) = ((a + (b - a) / 4 * c : Nat) : Int) := by
  have e : (((b - a) / 4 * c : Nat) : Int) = ((b - a : Nat) : Int) / 4 * (c : Int) := by
    rw [Int.natCast_mul, Int.natCast_ediv]; rfl
  have hle : (b - a) / 4 * c ≤ (b - a) / 4 * 3 := Nat.mul_le_mul_left _ hc
  rw [Int.tdiv_eq_ediv_of_nonneg (by omega), w64_in (n := ((b - a : Nat) : Int) / 4) (by omega), ← e, w64_nat (by omega), wadd (by omega) (by omega)]
theorem f99_eq {F n a b : Nat} (hn : n < 100000) (hab : a < b) (hb : b ≤ n) {l : List Int} (hl : l.length = n) : ∃ (p : Nat) (h : Int), f99 F 0 n a b l = some ((p : Int), h) ∧ a ≤ p ∧ p < b := by
  have q1 : w64 ((a : Int) + (w64 ((w64 (Int.tdiv ((b - a : Nat) : Int) 4)) * 1))) = _ := quart (c := 1) (by omega) (by omega) (by omega)
  have q2 : w64 ((a : Int) + (w64 ((w64 (Int.tdiv ((b - a : Nat) : Int) 4)) * 2))) = _ := quart (c := 2) (by omega) (by omega) (by omega)
  have q3 : w64 ((a : Int) + (w64 ((w64 (Int.tdiv ((b - a : Nat) : Int) 4)) * 3))) = _ := quart (c := 3) (by omega) (by omega) (by omega)
  obtain ⟨p, h, e, e1, e2⟩ : ∃ (p : Nat) (h : Int), f99_p0 F 0 n b a l = some ((p : Int), h) ∧ a ≤ p ∧ p < b := by
    unfold f99_p0
    rw [wsub (by omega) (by omega)]
    by_cases h8 : 8 ≤ b - a
    · obtain ⟨i, j, m, t, e, i1, i2, j1, j2, m1, m2⟩ : ∃ (i j m : Nat) (t : Int), f99_p1 F 0 n a b l = some ((i : Int), (j : Int), (m : Int), t) ∧ a ≤ i ∧ i < b ∧ a ≤ j ∧ j < b ∧ a ≤ m ∧ m < b := by
        unfold f99_p1
        rw [wsub (by omega) (by omega), q1, q2, q3]
        by_cases h50 : 50 ≤ b - a
        · rw [if_pos (by simp; omega)]
          obtain ⟨i, t1, e1, i1, i2⟩ := f118_eq (F := F) (i := a + (b - a) / 4 * 1) (s := 0) hl hn (by omega) (by omega)
          obtain ⟨j, t2, e2, j1, j2⟩ := f118_eq (F := F) (i := a + (b - a) / 4 * 2) (s := t1) hl hn (by omega) (by omega)
          obtain ⟨m, t3, e3, m1, m2⟩ := f118_eq (F := F) (i := a + (b - a) / 4 * 3) (s := t2) hl hn (by omega) (by omega)
          rw [e1, Option.bind_some]
          dsimp only
          rw [e2, Option.bind_some]
          dsimp only
          rw [e3, Option.bind_some]
          exact ⟨i, j, m, t3, rfl, by omega, by omega, by omega, by omega, by omega, by omega⟩
        · rw [if_neg (by simp; omega)]
          exact ⟨_, _, _, 0, rfl, by omega, by omega, by omega, by omega, by omega, by omega⟩
      rw [if_pos (by simp; omega), e, Option.bind_some]
      dsimp only
      obtain ⟨p, t, e, h⟩ := f119_eq (F := F) (i := i) (j := j) (m := m) (s := t) hl (by omega) (by omega) (by omega)
      rw [e]
      exact ⟨p, t, rfl, by omega, by omega⟩
    · rw [if_neg (by simp; omega), q2]
      exact ⟨_, 0, rfl, by omega, by omega⟩
  unfold f99
  rw [e, Option.bind_some]
  dsimp only
  split
  · exact ⟨p, 1, rfl, e1, e2⟩
  · split
    · exact ⟨p, 2, rfl, e1, e2⟩
    · exact ⟨p, 0, rfl, e1, e2⟩
theorem f100_in {F n a b : Nat} (hn : n < 100000) (hb : b ≤ n) : ∀ (k i j : Nat) (l : List Int), l.length = n → a ≤ i → j < b → j < k + i → 0 < k → ∃ r, f100_p1 F 0 n k i j l = some r ∧ Mv a b l r := by
  intro k
  induction k with
  | zero => intro i j l _ _ _ _ h; omega
  | succ k ih =>
    intro i j l hl h1 h2 h3 h4
    unfold f100_p1
    by_cases hij : i < j
    · rw [if_pos (by simp; omega), rq (by omega), ld (by omega), Option.bind_some, rq (by omega), ld (by omega), Option.bind_some, rs (by omega), rtt (by omega), sw_eq, w64_succ (by omega), wm (by omega) (by omega)]
      obtain ⟨r, r1, r2⟩ := ih (i + 1) (j - 1) (sw l i j) (by rw [sw_len, hl]) (by omega) (by omega) (by omega) (by omega)
      exact ⟨r, r1, (Mv.sw (by omega) (by omega) (by omega)).trans r2⟩
    · rw [if_neg (by simp; omega)]
      exact ⟨l, rfl, Mv.refl⟩
theorem f100_rg {F n a b : Nat} (hn : n < 100000) (hF : n < F) (hab : a < b) (hb : b ≤ n) {l : List Int} (hl : l.length = n) : ∃ r, f100 F 0 n a b l = some r ∧ Mv a b l r := by
  unfold f100
  obtain ⟨r, r1, r2⟩ := f100_in (F := F) (n := n) (a := a) (b := b) hn hb F a (b - 1) l hl (Nat.le_refl _) (by omega) (by omega) (by omega)
  rw [wm (by omega) (by omega), r1]
  exact ⟨r, rfl, r2⟩
/-- What lies before a is not greater. -/
def Low (a b : Nat) (l : List Int) : Prop := 0 < a → ∀ i, a ≤ i → i < b → nt l (a - 1) ≤ nt l i
theorem Low.rg {a b : Nat} {l r : List Int} (h : Low a b l) (g : Mv a b l r) : Low a b r := fun h0 i i1 i2 => by
  obtain ⟨j, j1, j2, j3⟩ := g.src i i1 i2
  rw [g.out (a - 1) (by omega), j3]
  exact h h0 j j1 j2
/-- How far it is in order. -/
theorem f101_run {F n a b : Nat} {l : List Int} {s : Int} (hn : n < 100000) (hl : l.length = n) (hb : b ≤ n) : ∀ (k i : Nat), a < i → i ≤ b → b < k + i → So a i l → ∃ j : Nat, f101_p5_1 F 0 n a b s l k i = some (j : Int) ∧ i ≤ j ∧ j ≤ b ∧ So a j l := by
  intro k
  induction k with
  | zero => intro i _ _ h; omega
  | succ k ih =>
    intro i h1 h2 h3 h
    unfold f101_p5_1
    by_cases hi : i < b
    · rw [if_pos (by simp; omega), rq (by omega), ld (by omega), Option.bind_some, wm (by omega) (by omega), rq (by omega), ld (by omega), Option.bind_some, f102_eq, Option.bind_some]
      by_cases hlt : nt l i < nt l (i - 1)
      · rw [if_pos (decide_eq_true hlt)]
        exact ⟨i, rfl, Nat.le_refl _, h2, h⟩
      · rw [if_neg (by simpa using hlt), w64_succ (by omega)]
        obtain ⟨j, j1, j2, j3, j4⟩ := ih (i + 1) (by omega) (by omega) (by omega) fun p q p1 p2 p3 => by
          by_cases hq : q = i
          · subst hq
            by_cases hp : p = q
            · subst hp; exact Int.le_refl _
            · have := h p (q - 1) p1 (by omega) (by omega)
              omega
          · exact h p q p1 p2 (by omega)
        exact ⟨j, j1, by omega, j3, j4⟩
    · rw [if_neg (by simp; omega)]
      exact ⟨i, rfl, Nat.le_refl _, h2, h⟩
theorem f101_left {F n a b m : Nat} {x y : Int} (hn : n < 100000) (hb : b ≤ n) (hmb : m ≤ b) : ∀ (k j : Nat) (l : List Int), l.length = n → a ≤ j → j < m → j < k → Low a b l → Ins a j m l → ∃ r, f101_p12_1 F 0 n a b x y k j l = some r ∧ Mv a b l r ∧ So a m r := by
  intro k
  induction k with
  | zero => intro j l _ _ _ h; omega
  | succ k ih =>
    intro j l hl h1 h2 h3 hlow hi
    unfold f101_p12_1
    by_cases hj : 1 ≤ j
    · rw [if_pos (by simp; omega), rq (by omega), ld (by omega), Option.bind_some, wm (by omega) (by omega), rq (by omega), ld (by omega), Option.bind_some, f102_eq, Option.bind_some]
      by_cases hlt : nt l j < nt l (j - 1)
      · have haj : a < j := by
          by_cases he : a = j
          · subst he
            have := hlow (by omega) a (Nat.le_refl _) (by omega)
            omega
          · omega
        have g := Mv.sw (l := l) (a := a) (b := b) (i := j) (j := j - 1) (by omega) (by omega) (by omega)
        obtain ⟨r, r1, r2, r3⟩ := ih (j - 1) (sw l j (j - 1)) (by rw [sw_len, hl]) (by omega) (by omega) (by omega) (hlow.rg g) (hi.step haj h2 (by omega) hlt)
        rw [if_pos (decide_eq_true hlt), rs (by omega), rtt (by omega), sw_eq]
        exact ⟨r, r1, g.trans r2, r3⟩
      · rw [if_neg (by simpa using hlt)]
        exact ⟨l, rfl, Mv.refl, hi.stop (Or.inr hlt) h1⟩
    · rw [if_neg (by simp; omega)]
      exact ⟨l, rfl, Mv.refl, hi.stop (Or.inl (by omega)) h1⟩
theorem f101_right {F n a b c : Nat} {x y : Int} (hn : n < 100000) (hb : b ≤ n) : ∀ (k j : Nat) (l : List Int), l.length = n → c < j → j ≤ b → b < k + j → ∃ r, f101_p18_1 F 0 n a b x y k j l = some r ∧ Mv c b l r := by
  intro k
  induction k with
  | zero => intro j l _ _ _ h; omega
  | succ k ih =>
    intro j l hl h1 h2 h3
    unfold f101_p18_1
    by_cases hj : j < b
    · rw [if_pos (by simp; omega), rq (by omega), ld (by omega), Option.bind_some, wm (by omega) (by omega), rq (by omega), ld (by omega), Option.bind_some, f102_eq, Option.bind_some]
      by_cases hlt : nt l j < nt l (j - 1)
      · have g := Mv.sw (l := l) (a := c) (b := b) (i := j) (j := j - 1) (by omega) (by omega) (by omega)
        obtain ⟨r, r1, r2⟩ := ih (j + 1) (sw l j (j - 1)) (by rw [sw_len, hl]) (by omega) (by omega) (by omega)
        rw [if_pos (decide_eq_true hlt), rs (by omega), rtt (by omega), sw_eq, w64_succ (by omega)]
        exact ⟨r, r1, g.trans r2⟩
      · rw [if_neg (by simpa using hlt)]
        exact ⟨l, rfl, Mv.refl⟩
    · rw [if_neg (by simp; omega)]
      exact ⟨l, rfl, Mv.refl⟩
theorem f101_loop {F n a b : Nat} (hn : n < 100000) (hF : n < F) (hb : b ≤ n) : ∀ (k i : Nat) (s : Nat) (l : List Int), l.length = n → a < i → i ≤ b → 5 < k + s → s ≤ 5 → So a i l → Low a b l →
    ∃ z r, f101_p1_8 F 0 n a b k i s l = some z ∧ Mv a b l r ∧ (z = .c0 true r ∧ So a b r ∨ z = .c0 false r ∨ z = .c1 r) := by
  intro k
  induction k with
  | zero => intro i s l _ _ _ h; omega
  | succ k ih =>
    intro i s l hl h1 h2 h3 h4 hso hlow
    unfold f101_p1_8
    by_cases hs : s < 5
    · obtain ⟨j, j1, j2, j3, j4⟩ := f101_run (F := F) (s := (s : Int)) hn hl hb F i h1 h2 (by omega) hso
      rw [if_pos (by simp; omega), j1, Option.bind_some]
      by_cases hjb : j = b
      · subst hjb
        rw [if_pos (by simp)]
        exact ⟨_, l, rfl, Mv.refl, Or.inl ⟨rfl, j4⟩⟩
      · rw [if_neg (by simp; omega), wsub (by omega) (by omega)]
        by_cases h50 : b - a < 50
        · rw [if_pos (by simp; omega)]
          exact ⟨_, l, rfl, Mv.refl, Or.inr (Or.inl rfl)⟩
        · rw [if_neg (by simp; omega), wm (by omega) (by omega), rq (by omega), ld (by omega), Option.bind_some, rq (by omega), ld (by omega), Option.bind_some, rs (by omega), rtt (by omega)]
          have g := Mv.sw (l := l) (a := a) (b := b) (i := j) (j := j - 1) (by omega) (by omega) (by omega)
          have ins : Ins a (j - 1) j (sw l j (j - 1)) := ⟨fun p q p1 p2 p3 p4 p5 => by
            rw [sw_o (by omega) (by omega) (by omega) p4, sw_o (by omega) (by omega) (by omega) p5]
            exact j4 p q p1 p2 p3, fun q q1 q2 => by omega⟩
          obtain ⟨r, r1, r2, r3⟩ : ∃ r, f101_p10_1 F 0 n a b j s l (nt l (j - 1)) (nt l j) = some r ∧ Mv a b (sw l j (j - 1)) r ∧ So a j r := by
            unfold f101_p10_1
            rw [wsub (by omega) (by omega), wm (by omega) (by omega), sw_eq]
            by_cases h2 : 2 ≤ j - a
            · obtain ⟨r, r1, r2, r3⟩ := f101_left (F := F) (a := a) (b := b) (m := j) (x := (j : Int)) (y := (s : Int)) hn hb (by omega) F (j - 1) (sw l j (j - 1)) (by rw [sw_len, hl]) (by omega) (by omega) (by omega) (hlow.rg g) ins
              rw [if_pos (by simp; omega), r1]
              exact ⟨r, rfl, r2, r3⟩
            · rw [if_neg (by simp; omega)]
              exact ⟨_, rfl, Mv.refl, fun p q p1 p2 p3 => by
                have : p = q := by omega
                subst this; exact Int.le_refl _⟩
          obtain ⟨t, t1, t2⟩ : ∃ t, f101_p16_1 F 0 n a b j s r = some t ∧ Mv j b r t := by
            unfold f101_p16_1
            rw [wsub (by omega) (by omega), w64_succ (by omega)]
            by_cases h2 : 2 ≤ b - j
            · obtain ⟨t, t1, t2⟩ := f101_right (F := F) (a := a) (b := b) (c := j) (x := (j : Int)) (y := (s : Int)) hn hb F (j + 1) r (by rw [r2.len, sw_len, hl]) (by omega) (by omega) (by omega)
              rw [if_pos (by simp; omega), t1]
              exact ⟨t, rfl, t2⟩
            · rw [if_neg (by simp; omega)]
              exact ⟨_, rfl, Mv.refl⟩
          have g2 := (g.trans r2).trans (t2.mono (by omega) (Nat.le_refl _))
          obtain ⟨z, u, z1, z2, z3⟩ := ih j (s + 1) t (by rw [g2.len, hl]) (by omega) (by omega) (by omega) (by omega) (fun p q p1 p2 p3 => by
            rw [t2.out p (by omega), t2.out q (by omega)]
            exact r3 p q p1 p2 p3) (hlow.rg g2)
          rw [r1, Option.bind_some, t1, Option.bind_some, w64_succ (by omega), z1]
          exact ⟨z, u, rfl, g2.trans z2, z3⟩
    · rw [if_neg (by simp; omega)]
      exact ⟨_, l, rfl, Mv.refl, Or.inr (Or.inr rfl)⟩
theorem f101_eq {F n a b : Nat} (hn : n < 100000) (hF : n < F) (hF5 : 5 < F) (hab : a < b) (hb : b ≤ n) {l : List Int} (hl : l.length = n) (hlow : Low a b l) : ∃ z r, f101 F 0 n a b l = some (z, r) ∧ Mv a b l r ∧ (z = true → So a b r) := by
  unfold f101
  obtain ⟨z, r, z1, z2, z3⟩ := f101_loop (F := F) (a := a) (b := b) hn hF hb F (a + 1) 0 l hl (by omega) (by omega) (by omega) (by omega) (fun p q p1 p2 p3 => by
    have : p = q := by omega
    subst this; exact Int.le_refl _) hlow
  rw [w64_succ (by omega), show f101_p1_8 F 0 n a b F ((a + 1 : Nat) : Int) 0 l = some z from z1, Option.bind_some]
  rcases z3 with ⟨rfl, h⟩ | rfl | rfl
  · exact ⟨true, r, rfl, z2, fun _ => h⟩
  · exact ⟨false, r, rfl, z2, fun h => by cases h⟩
  · exact ⟨false, r, rfl, z2, fun h => by cases h⟩
end
section
/-- Parts by what is not greater than the first number. -/
theorem eqUp {F n a j : Nat} {l : List Int} (hn : n < 100000) (hl : l.length = n) (ha : a < n) (hj : j < n) : ∀ (k i : Nat), i ≤ j + 1 → j + 1 < k + i → ∃ m : Nat, f103_p4_1 F 0 n a j l k i = some (m : Int) ∧ i ≤ m ∧ m ≤ j + 1 ∧ (∀ p, i ≤ p → p < m → nt l p ≤ nt l a) ∧ (m = j + 1 ∨ nt l a < nt l m) := by
  intro k
  induction k with
  | zero => intro i _ h; omega
  | succ k ih =>
    intro i h1 h2
    unfold f103_p4_1
    by_cases hi : i ≤ j
    · rw [if_pos (by simp; omega), rq ha, ld (by omega), Option.bind_some, rq (by omega), ld (by omega), Option.bind_some, f102_eq, Option.bind_some]
      by_cases hlt : nt l a < nt l i
      · rw [if_pos (decide_eq_true hlt)]
        exact ⟨i, rfl, Nat.le_refl _, h1, fun p p1 p2 => by omega, Or.inr hlt⟩
      · rw [if_neg (by simpa using hlt), w64_succ (by omega)]
        obtain ⟨m, m1, m2, m3, m4, m5⟩ := ih (i + 1) (by omega) (by omega)
        refine ⟨m, m1, by omega, m3, fun p p1 p2 => ?_, m5⟩
        by_cases hp : p = i
        · subst hp; omega
        · exact m4 p (by omega) p2
    · rw [if_neg (by simp; omega)]
      exact ⟨i, rfl, Nat.le_refl _, h1, fun p p1 p2 => by omega, Or.inl (by omega)⟩
theorem eqDn {F n a i : Nat} {l : List Int} (hn : n < 100000) (hl : l.length = n) (ha : a < n) (hi0 : 0 < i) : ∀ (k j : Nat), j < n → i ≤ j + 1 → j + 1 < k + i → ∃ m : Nat, f103_p8_1 F 0 n a i l k j = some (m : Int) ∧ m ≤ j ∧ i ≤ m + 1 ∧ (∀ p, m < p → p ≤ j → nt l a < nt l p) ∧ (m < i ∨ nt l m ≤ nt l a) := by
  intro k
  induction k with
  | zero => intro j _ _ h; omega
  | succ k ih =>
    intro j hj h1 h2
    unfold f103_p8_1
    by_cases hij : i ≤ j
    · rw [if_pos (by simp; omega), rq ha, ld (by omega), Option.bind_some, rq (by omega), ld (by omega), Option.bind_some, f102_eq, Option.bind_some]
      by_cases hlt : nt l a < nt l j
      · rw [if_pos (decide_eq_true hlt), wm (by omega) (by omega)]
        obtain ⟨m, m1, m2, m3, m4, m5⟩ := ih (j - 1) (by omega) (by omega) (by omega)
        refine ⟨m, m1, by omega, m3, fun p p1 p2 => ?_, m5⟩
        by_cases hp : p = j
        · subst hp; exact hlt
        · exact m4 p p1 (by omega)
      · rw [if_neg (by simpa using hlt)]
        exact ⟨j, rfl, Nat.le_refl _, h1, fun p p1 p2 => by omega, Or.inr (by omega)⟩
    · rw [if_neg (by simp; omega)]
      exact ⟨j, rfl, Nat.le_refl _, h1, fun p p1 p2 => by omega, Or.inl (by omega)⟩
theorem eqLoop {F n a b : Nat} (hn : n < 100000) (hF : n + 1 < F) (hb : b ≤ n) : ∀ (k i j : Nat) (l : List Int), l.length = n → a < i → i ≤ j + 1 → j < b → j + 1 < k + i → (∀ p, a ≤ p → p < i → nt l p ≤ nt l a) → (∀ p, j < p → p < b → nt l a < nt l p) →
    ∃ (m : Nat) (r : List Int), f103_p1 F 0 n a k i j l = some ((m : Int), r) ∧ i ≤ m ∧ m ≤ b ∧ Mv a b l r ∧ (∀ p, a ≤ p → p < m → nt r p ≤ nt l a) ∧ (∀ p, m ≤ p → p < b → nt l a < nt r p) := by
  intro k
  induction k with
  | zero => intro i j l _ _ _ _ h; omega
  | succ k ih =>
    intro i j l hl h1 h2 h3 h4 h5 h6
    obtain ⟨u, u1, u2, u3, u4, u5⟩ := eqUp (F := F) (a := a) (j := j) hn hl (by omega) (by omega) F i h2 (by omega)
    obtain ⟨d, d1, d2, d3, d4, d5⟩ := eqDn (F := F) (a := a) (i := u) hn hl (by omega) (by omega) F j (by omega) (by omega) (by omega)
    unfold f103_p1
    rw [u1, Option.bind_some, d1, Option.bind_some]
    by_cases hud : d < u
    · rw [if_pos (by simp; omega)]
      refine ⟨u, l, rfl, u2, by omega, Mv.refl, fun p p1 p2 => ?_, fun p p1 p2 => ?_⟩
      · by_cases hp : p < i
        · exact h5 p p1 hp
        · exact u4 p (by omega) p2
      · by_cases hp : j < p
        · exact h6 p hp p2
        · exact d4 p (by omega) (by omega)
    · have hul : nt l a < nt l u := by rcases u5 with u5 | u5 <;> omega
      have hdl : nt l d ≤ nt l a := by rcases d5 with d5 | d5 <;> omega
      have hne : u ≠ d := fun e => by subst e; omega
      have e1 : nt (sw l u d) d = nt l u := sw_j (by omega) (by omega)
      have e2 : nt (sw l u d) u = nt l d := sw_i (by omega) (by omega)
      have e3 : ∀ k, k ≠ u → k ≠ d → nt (sw l u d) k = nt l k := fun k h1 h2 => sw_o (by omega) (by omega) h1 h2
      have ea := e3 a (by omega) (by omega)
      rw [if_neg (by simp; omega), rq (by omega), ld (by omega), Option.bind_some, rq (by omega), ld (by omega), Option.bind_some, rs (by omega), rtt (by omega), sw_eq, w64_succ (by omega), wm (by omega) (by omega)]
      obtain ⟨m, r, m1, m2, m3, m4, m5, m6⟩ := ih (u + 1) (d - 1) (sw l u d) (by rw [sw_len, hl]) (by omega) (by omega) (by omega) (by omega) (fun p p1 p2 => by
        rw [ea]
        by_cases hp : p = u
        · rw [hp, e2]; exact hdl
        · rw [e3 p hp (by omega)]
          by_cases hpi : p < i
          · exact h5 p p1 hpi
          · exact u4 p (by omega) (by omega)) (fun p p1 p2 => by
        rw [ea]
        by_cases hp : p = d
        · rw [hp, e1]; exact hul
        · rw [e3 p (by omega) hp]
          by_cases hpj : j < p
          · exact h6 p hpj p2
          · exact d4 p (by omega) (by omega))
      rw [ea] at m5 m6
      exact ⟨m, r, m1, by omega, m3, (Mv.sw (by omega) (by omega) (by omega)).trans m4, m5, m6⟩
theorem f103_eq {F n a b p : Nat} (hn : n < 100000) (hF : n + 1 < F) (hab : a < b) (hb : b ≤ n) (hp : a ≤ p ∧ p < b) {l : List Int} (hl : l.length = n) :
    ∃ (m : Nat) (r : List Int), f103 F 0 n a b p l = some ((m : Int), r) ∧ a < m ∧ m ≤ b ∧ Mv a b l r ∧ (∀ q, a ≤ q → q < m → nt r q ≤ nt l p) ∧ (∀ q, m ≤ q → q < b → nt l p < nt r q) := by
  unfold f103
  have ea : nt (sw l a p) a = nt l p := sw_i (by omega) (by omega)
  obtain ⟨m, r, m1, m2, m3, m4, m5, m6⟩ := eqLoop (F := F) (a := a) hn hF hb F (a + 1) (b - 1) (sw l a p) (by rw [sw_len, hl]) (by omega) (by omega) (by omega) (by omega) (fun q q1 q2 => by
    have : q = a := by omega
    subst this; exact Int.le_refl _) (fun q q1 q2 => by omega)
  rw [rq (by omega), ld (by omega), Option.bind_some, rq (by omega), ld (by omega), Option.bind_some, rs (by omega), rtt (by omega), sw_eq, w64_succ (by omega), wm (by omega) (by omega), m1]
  rw [ea] at m5 m6
  exact ⟨m, r, rfl, by omega, m3, (Mv.sw (by omega) (by omega) (by omega)).trans m4, m5, m6⟩
/-- Parts by what is less than the first number. -/
theorem ltUp {F n a j : Nat} {l : List Int} (hn : n < 100000) (hl : l.length = n) (ha : a < n) (hj : j < n) : ∀ (k i : Nat), i ≤ j + 1 → j + 1 < k + i → ∃ m : Nat, f104_p13_1 F 0 n a j l k i = some (m : Int) ∧ i ≤ m ∧ m ≤ j + 1 ∧ (∀ p, i ≤ p → p < m → nt l p < nt l a) ∧ (m = j + 1 ∨ nt l a ≤ nt l m) := by
  intro k
  induction k with
  | zero => intro i _ h; omega
  | succ k ih =>
    intro i h1 h2
    unfold f104_p13_1
    by_cases hi : i ≤ j
    · rw [if_pos (by simp; omega), rq (by omega), ld (by omega), Option.bind_some, rq ha, ld (by omega), Option.bind_some, f102_eq, Option.bind_some]
      by_cases hlt : nt l i < nt l a
      · rw [if_pos (decide_eq_true hlt), w64_succ (by omega)]
        obtain ⟨m, m1, m2, m3, m4, m5⟩ := ih (i + 1) (by omega) (by omega)
        refine ⟨m, m1, by omega, m3, fun p p1 p2 => ?_, m5⟩
        by_cases hp : p = i
        · subst hp; exact hlt
        · exact m4 p (by omega) p2
      · rw [if_neg (by simpa using hlt)]
        exact ⟨i, rfl, Nat.le_refl _, h1, fun p p1 p2 => by omega, Or.inr (by omega)⟩
    · rw [if_neg (by simp; omega)]
      exact ⟨i, rfl, Nat.le_refl _, h1, fun p p1 p2 => by omega, Or.inl (by omega)⟩
theorem ltDn {F n a i : Nat} {l : List Int} (hn : n < 100000) (hl : l.length = n) (ha : a < n) (hi0 : 0 < i) : ∀ (k j : Nat), j < n → i ≤ j + 1 → j + 1 < k + i → ∃ m : Nat, f104_p17_1 F 0 n a i l k j = some (m : Int) ∧ m ≤ j ∧ i ≤ m + 1 ∧ (∀ p, m < p → p ≤ j → nt l a ≤ nt l p) ∧ (m < i ∨ nt l m < nt l a) := by
  intro k
  induction k with
  | zero => intro j _ _ h; omega
  | succ k ih =>
    intro j hj h1 h2
    unfold f104_p17_1
    by_cases hij : i ≤ j
    · rw [if_pos (by simp; omega), rq (by omega), ld (by omega), Option.bind_some, rq ha, ld (by omega), Option.bind_some, f102_eq, Option.bind_some]
      by_cases hlt : nt l j < nt l a
      · rw [if_pos (decide_eq_true hlt)]
        exact ⟨j, rfl, Nat.le_refl _, h1, fun p p1 p2 => by omega, Or.inr hlt⟩
      · rw [if_neg (by simpa using hlt), wm (by omega) (by omega)]
        obtain ⟨m, m1, m2, m3, m4, m5⟩ := ih (j - 1) (by omega) (by omega) (by omega)
        refine ⟨m, m1, by omega, m3, fun p p1 p2 => ?_, m5⟩
        by_cases hp : p = j
        · subst hp; omega
        · exact m4 p p1 (by omega)
    · rw [if_neg (by simp; omega)]
      exact ⟨j, rfl, Nat.le_refl _, h1, fun p p1 p2 => by omega, Or.inl (by omega)⟩
/-- The first round looks at the same. -/
theorem up1 {F n a b p : Nat} {l : List Int} (hb : 0 < b) (hb2 : b < 100000) : ∀ (k : Nat) (i : Int), f104_p1 F 0 n a b l (nt l p) p (nt l a) k i = f104_p13_1 F 0 n a ((b - 1 : Nat) : Int) (sw l a p) k i := by
  intro k
  induction k with
  | zero => intro i; rfl
  | succ k ih =>
    intro i
    unfold f104_p1 f104_p13_1
    simp only [ih, sw_eq, wm hb (by omega)]
theorem dn1 {F n a p : Nat} {l : List Int} {x : Int} : ∀ (k : Nat) (j : Int), f104_p5 F 0 n a x l (nt l p) p (nt l a) k j = f104_p17_1 F 0 n a x (sw l a p) k j := by
  intro k
  induction k with
  | zero => intro i; rfl
  | succ k ih =>
    intro i
    unfold f104_p5 f104_p17_1
    simp only [ih, sw_eq]
theorem ltLoop {F n a b : Nat} (hn : n < 100000) (hF : n + 1 < F) (hb : b ≤ n) : ∀ (k i j : Nat) (l : List Int), l.length = n → a < i → i ≤ j + 1 → j < b → j + 1 < k + i → (∀ p, a < p → p < i → nt l p < nt l a) → (∀ p, j < p → p < b → nt l a ≤ nt l p) →
    ∃ (m : Nat) (r : List Int), f104_p10 F 0 n a k i j l = some ((m : Int), r) ∧ a ≤ m ∧ m < b ∧ nt r a = nt l a ∧ Mv a b l r ∧ (∀ p, a < p → p ≤ m → nt r p < nt l a) ∧ (∀ p, m < p → p < b → nt l a ≤ nt r p) := by
  intro k
  induction k with
  | zero => intro i j l _ _ _ _ h; omega
  | succ k ih =>
    intro i j l hl h1 h2 h3 h4 h5 h6
    obtain ⟨u, u1, u2, u3, u4, u5⟩ := ltUp (F := F) (a := a) (j := j) hn hl (by omega) (by omega) F i h2 (by omega)
    obtain ⟨d, d1, d2, d3, d4, d5⟩ := ltDn (F := F) (a := a) (i := u) hn hl (by omega) (by omega) F j (by omega) (by omega) (by omega)
    unfold f104_p10
    rw [u1, Option.bind_some, d1, Option.bind_some]
    by_cases hud : d < u
    · rw [if_pos (by simp; omega)]
      refine ⟨d, l, rfl, by omega, by omega, rfl, Mv.refl, fun p p1 p2 => ?_, fun p p1 p2 => ?_⟩
      · by_cases hp : p < i
        · exact h5 p p1 hp
        · exact u4 p (by omega) (by omega)
      · by_cases hp : j < p
        · exact h6 p hp p2
        · exact d4 p (by omega) (by omega)
    · have hul : nt l a ≤ nt l u := by rcases u5 with u5 | u5 <;> omega
      have hdl : nt l d < nt l a := by rcases d5 with d5 | d5 <;> omega
      have hne : u ≠ d := fun e => by subst e; omega
      have e1 : nt (sw l u d) d = nt l u := sw_j (by omega) (by omega)
      have e2 : nt (sw l u d) u = nt l d := sw_i (by omega) (by omega)
      have e3 : ∀ k, k ≠ u → k ≠ d → nt (sw l u d) k = nt l k := fun k h1 h2 => sw_o (by omega) (by omega) h1 h2
      have ea := e3 a (by omega) (by omega)
      rw [if_neg (by simp; omega), rq (by omega), ld (by omega), Option.bind_some, rq (by omega), ld (by omega), Option.bind_some, rs (by omega), rtt (by omega), sw_eq, w64_succ (by omega), wm (by omega) (by omega)]
      obtain ⟨m, r, m1, m2, m3, m4, m5, m6, m7⟩ := ih (u + 1) (d - 1) (sw l u d) (by rw [sw_len, hl]) (by omega) (by omega) (by omega) (by omega) (fun p p1 p2 => by
        rw [ea]
        by_cases hp : p = u
        · rw [hp, e2]; exact hdl
        · rw [e3 p hp (by omega)]
          by_cases hpi : p < i
          · exact h5 p p1 hpi
          · exact u4 p (by omega) (by omega)) (fun p p1 p2 => by
        rw [ea]
        by_cases hp : p = d
        · rw [hp, e1]; exact hul
        · rw [e3 p (by omega) hp]
          by_cases hpj : j < p
          · exact h6 p hpj p2
          · exact d4 p (by omega) (by omega))
      rw [ea] at m4 m6 m7
      exact ⟨m, r, m1, m2, m3, m4, (Mv.sw (by omega) (by omega) (by omega)).trans m5, m6, m7⟩
theorem lastSw {n a b m : Nat} {l r : List Int} (hl : r.length = n) (hb : b ≤ n) (hm : a ≤ m ∧ m < b) (h1 : ∀ p, a < p → p ≤ m → nt r p < nt r a) (h2 : ∀ p, m < p → p < b → nt r a ≤ nt r p) (g : Mv a b l r) :
    Mv a b l (sw r m a) ∧ (∀ p, a ≤ p → p < m → nt (sw r m a) p ≤ nt (sw r m a) m) ∧ (∀ p, m < p → p < b → nt (sw r m a) m ≤ nt (sw r m a) p) := by
  have e1 : nt (sw r m a) a = nt r m := sw_j (by omega) (by omega)
  have e2 : nt (sw r m a) m = nt r a := sw_i (by omega) (by omega)
  have e3 : ∀ k, k ≠ m → k ≠ a → nt (sw r m a) k = nt r k := fun k h1 h2 => sw_o (by omega) (by omega) h1 h2
  refine ⟨g.trans (Mv.sw (by omega) (by omega) (by omega)), fun p p1 p2 => ?_, fun p p1 p2 => ?_⟩
  · rw [e2]
    by_cases hp : p = a
    · rw [hp, e1]; have := h1 m (by omega) (Nat.le_refl _); omega
    · rw [e3 p (by omega) hp]; have := h1 p (by omega) (by omega); omega
  · rw [e2, e3 p (by omega) (by omega)]
    exact h2 p p1 p2
theorem f104_eq {F n a b p : Nat} (hn : n < 100000) (hF : n + 1 < F) (hab : a + 1 < b) (hb : b ≤ n) (hp : a ≤ p ∧ p < b) {l : List Int} (hl : l.length = n) :
    ∃ (m : Nat) (z : Bool) (r : List Int), f104 F 0 n a b p l = some ((m : Int), z, r) ∧ a ≤ m ∧ m < b ∧ Mv a b l r ∧ (∀ q, a ≤ q → q < m → nt r q ≤ nt r m) ∧ (∀ q, m < q → q < b → nt r m ≤ nt r q) := by
  have hls : (sw l a p).length = n := by rw [sw_len, hl]
  have gs : Mv a b l (sw l a p) := Mv.sw (by omega) (by omega) (by omega)
  obtain ⟨u, u1, u2, u3, u4, u5⟩ := ltUp (F := F) (a := a) (j := b - 1) hn hls (by omega) (by omega) F (a + 1) (by omega) (by omega)
  obtain ⟨d, d1, d2, d3, d4, d5⟩ := ltDn (F := F) (a := a) (i := u) hn hls (by omega) (by omega) F (b - 1) (by omega) (by omega) (by omega)
  unfold f104
  rw [rq (by omega), ld (by omega), Option.bind_some, rq (by omega), ld (by omega), Option.bind_some, rs (by omega), rtt (by omega), sw_eq, w64_succ (by omega), wm (by omega) (by omega), up1 (by omega) (by omega), u1, Option.bind_some, dn1, d1, Option.bind_some]
  generalize sw l a p = s at *
  by_cases hud : d < u
  · rw [if_pos (by simp; omega), ld (by omega), Option.bind_some, rq (by omega), ld (by omega), Option.bind_some, rs (by omega), rtt (by omega), sw_eq]
    obtain ⟨g1, g2, g3⟩ := lastSw (n := n) (a := a) (b := b) (m := d) (l := l) (r := s) hls hb (by omega) (fun q q1 q2 => u4 q (by omega) (by omega)) (fun q q1 q2 => d4 q (by omega) (by omega)) gs
    exact ⟨d, true, _, rfl, by omega, by omega, g1, g2, g3⟩
  · have hul : nt s a ≤ nt s u := by rcases u5 with u5 | u5 <;> omega
    have hdl : nt s d < nt s a := by rcases d5 with d5 | d5 <;> omega
    have hne : u ≠ d := fun e => by subst e; omega
    have e1 : nt (sw s u d) d = nt s u := sw_j (by omega) (by omega)
    have e2 : nt (sw s u d) u = nt s d := sw_i (by omega) (by omega)
    have e3 : ∀ k, k ≠ u → k ≠ d → nt (sw s u d) k = nt s k := fun k h1 h2 => sw_o (by omega) (by omega) h1 h2
    have ea := e3 a (by omega) (by omega)
    obtain ⟨m, r, m1, m2, m3, m4, m5, m6, m7⟩ := ltLoop (F := F) (a := a) hn hF hb F (u + 1) (d - 1) (sw s u d) (by rw [sw_len, hls]) (by omega) (by omega) (by omega) (by omega) (fun q q1 q2 => by
      rw [ea]
      by_cases hq : q = u
      · rw [hq, e2]; exact hdl
      · rw [e3 q hq (by omega)]; exact u4 q (by omega) (by omega)) (fun q q1 q2 => by
      rw [ea]
      by_cases hq : q = d
      · rw [hq, e1]; exact hul
      · rw [e3 q (by omega) hq]; exact d4 q (by omega) (by omega))
    rw [if_neg (by simp; omega), rq (by omega), ld (by omega), Option.bind_some, rq (by omega), ld (by omega), Option.bind_some, rs (by omega), rtt (by omega), sw_eq, w64_succ (by omega), wm (by omega) (by omega), m1, Option.bind_some]
    dsimp only
    have hlr : r.length = n := by rw [m5.len, sw_len, hls]
    rw [ea] at m4 m6 m7
    rw [← m4] at m6 m7
    obtain ⟨g1, g2, g3⟩ := lastSw (n := n) (a := a) (b := b) (m := m) (l := l) (r := r) hlr hb (by omega) m6 m7 ((gs.trans (Mv.sw (by omega) (by omega) (by omega))).trans m5)
    rw [ld (by omega), Option.bind_some, rq (by omega), ld (by omega), Option.bind_some, rs (by omega), rtt (by omega), sw_eq]
    exact ⟨m, false, _, rfl, by omega, by omega, g1, g2, g3⟩
end
section
theorem So.glue {a b m : Nat} {r : List Int} (h1 : So a m r) (h2 : So (m + 1) b r) (h3 : ∀ p, a ≤ p → p < m → nt r p ≤ nt r m) (h4 : ∀ p, m < p → p < b → nt r m ≤ nt r p) : So a b r := fun i j i1 i2 i3 => by
  rcases Nat.lt_trichotomy i m with hi | hi | hi
  · rcases Nat.lt_trichotomy j m with hj | hj | hj
    · exact h1 i j i1 i2 hj
    · subst hj; exact h3 i i1 hi
    · have := h3 i i1 hi
      have := h4 j hj i3
      omega
  · subst hi
    rcases Nat.lt_or_eq_of_le i2 with hj | hj
    · exact h4 j hj i3
    · subst hj; exact Int.le_refl _
  · exact h2 i j (by omega) i2 i3
theorem So.glue2 {a b m : Nat} {r : List Int} (h1 : So a m r) (h2 : So m b r) (h3 : ∀ p q, a ≤ p → p < m → m ≤ q → q < b → nt r p ≤ nt r q) : So a b r := fun i j i1 i2 i3 => by
  by_cases hj : j < m
  · exact h1 i j i1 i2 hj
  · by_cases hi : i < m
    · exact h3 i j i1 hi (by omega) i3
    · exact h2 i j (by omega) i2 i3
theorem So.rg {a b c d : Nat} {l r : List Int} (h : So a b l) (g : Mv c d l r) (hd : b ≤ c ∨ d ≤ a) : So a b r := fun i j i1 i2 i3 => by
  rw [g.out i (by omega), g.out j (by omega)]
  exact h i j i1 i2 i3
/-- What a call of itself does, for less than so many. -/
def Rec (n w : Nat) (rec : Nat → Nat → Int → Int → Int → List Int → Option (List Int)) : Prop :=
  ∀ (a b : Nat) (lim : Int) (l : List Int), l.length = n → a ≤ b → b ≤ n → 0 ≤ lim ∧ lim ≤ 1000 → Low a b l → b - a < w → ∃ r, rec 0 n a b lim l = some r ∧ Mv a b l r ∧ So a b r
/-- What the rounds that follow do. -/
def Nxt (F n k w : Nat) (rec : Nat → Nat → Int → Int → Int → List Int → Option (List Int)) : Prop :=
  ∀ (a b : Nat) (lim : Int) (wb wp : Bool) (l : List Int), l.length = n → a ≤ b → b ≤ n → 0 ≤ lim ∧ lim ≤ 1000 → Low a b l → b - a < w → ∃ r, f91_p1_7 F rec 0 n k a b lim wb wp l = some r ∧ Mv a b l r ∧ So a b r
/-- After parts: the shorter one by itself, then the other one. -/
theorem split_ok {F n k a b m : Nat} {rec : Nat → Nat → Int → Int → Int → List Int → Option (List Int)} {lim : Int} {z wp : Bool} {r : List Int} (hn : n < 100000) (hb : b ≤ n) (hlim : 0 ≤ lim ∧ lim ≤ 1000) (hr : Rec n (b - a) rec) (hk : Nxt F n k (b - a) rec)
    (hl : r.length = n) (hm : a ≤ m ∧ m < b) (hlow : Low a b r) (h1 : ∀ q, a ≤ q → q < m → nt r q ≤ nt r m) (h2 : ∀ q, m < q → q < b → nt r m ≤ nt r q) :
    ∃ t, (Option.bind (f91_p10_1 F rec 0 n a b lim z m r) fun (x68, x69, x70, x71) => f91_p1_7 F rec 0 n k x68 x69 lim x70 wp x71) = some t ∧ Mv a b r t ∧ So a b t := by
  unfold f91_p10_1
  rw [wsub (by omega) (by omega), wsub (by omega) (by omega), w64_succ (by omega)]
  by_cases hlt : m - a < b - m
  · rw [if_pos (by simp; omega)]
    obtain ⟨s, s1, s2, s3⟩ := hr a m lim r hl hm.1 (by omega) hlim (fun h0 i i1 i2 => hlow h0 i i1 (by omega)) (by omega)
    have hls : s.length = n := by rw [s2.len, hl]
    rw [s1, Option.bind_some, Option.bind_some]
    have em : nt s m = nt r m := s2.out m (by omega)
    have hlow2 : Low (m + 1) b s := fun _ i i1 i2 => by
      rw [Nat.add_sub_cancel, em, s2.out i (by omega)]
      exact h2 i (by omega) i2
    obtain ⟨t, t1, t2, t3⟩ := hk (m + 1) b lim (decide (((m - a : Nat) : Int) ≥ w64 (Int.tdiv (w64 ((b : Int) - a)) 8))) wp s hls (by omega) hb hlim hlow2 (by omega)
    refine ⟨t, t1, (s2.mono (by omega) (by omega)).trans (t2.mono (by omega) (by omega)), So.glue (s3.rg t2 (by omega)) t3 (fun q q1 q2 => ?_) (fun q q1 q2 => ?_)⟩
    · rw [t2.out q (by omega), t2.out m (by omega), em]
      obtain ⟨j, j1, j2, j3⟩ := s2.src q q1 q2
      rw [j3]; exact h1 j j1 j2
    · rw [t2.out m (by omega), em]
      obtain ⟨j, j1, j2, j3⟩ := t2.src q (by omega) q2
      rw [j3, s2.out j (by omega)]; exact h2 j (by omega) j2
  · rw [if_neg (by simp; omega)]
    obtain ⟨s, s1, s2, s3⟩ := hr (m + 1) b lim r hl (by omega) hb hlim (fun h0 i i1 i2 => by
      rw [Nat.add_sub_cancel]; exact h2 i (by omega) i2) (by omega)
    have hls : s.length = n := by rw [s2.len, hl]
    rw [s1, Option.bind_some, Option.bind_some]
    have em : nt s m = nt r m := s2.out m (by omega)
    have hlow2 : Low a m s := fun h0 i i1 i2 => by
      rw [s2.out (a - 1) (by omega), s2.out i (by omega)]
      exact hlow h0 i i1 (by omega)
    obtain ⟨t, t1, t2, t3⟩ := hk a m lim (decide (((b - m : Nat) : Int) ≥ w64 (Int.tdiv (w64 ((b : Int) - a)) 8))) wp s hls (by omega) (by omega) hlim hlow2 (by omega)
    refine ⟨t, t1, (s2.mono (by omega) (by omega)).trans (t2.mono (by omega) (by omega)), So.glue t3 (s3.rg t2 (by omega)) (fun q q1 q2 => ?_) (fun q q1 q2 => ?_)⟩
    · rw [t2.out m (by omega), em]
      obtain ⟨j, j1, j2, j3⟩ := t2.src q q1 q2
      rw [j3, s2.out j (by omega)]; exact h1 j j1 j2
    · rw [t2.out m (by omega), t2.out q (by omega), em]
      obtain ⟨j, j1, j2, j3⟩ := s2.src q (by omega) q2
      rw [j3]; exact h2 j (by omega) j2
/-- The rest of a round, once there is a pivot. -/
def tail (F : Nat) (rec : Nat → Nat → Int → Int → Int → List Int → Option (List Int)) (n k : Nat) (x40 x41 x48 x53 : Int) (x43 x44 : Bool) (x59 : List Int) : Option (List Int) :=
  if (decide (x40 > 0)) = true then
    req ((0 : Int) ≤ (w64 (x40 - 1)) ∧ ((w64 (x40 - 1)) : Int) < ((n : Nat) : Int)) <|
    Option.bind ((x59)[(0 + (Int.toNat (w64 (x40 - 1))))]?) fun x60 =>
    req ((0 : Int) ≤ x53 ∧ (x53 : Int) < ((n : Nat) : Int)) <|
    Option.bind ((x59)[(0 + (Int.toNat x53))]?) fun x61 =>
    Option.bind (f102 F x60 x61) fun x62 =>
    if x62 = true then
      Option.bind (f104 F 0 n x40 x41 x53 x59) fun (x63, x64, x65) =>
      Option.bind (f91_p10_1 F rec 0 n x40 x41 x48 x64 x63 x65) fun (x68, x69, x70, x71) =>
      f91_p1_7 F rec 0 n k x68 x69 x48 x70 x64 x71
    else
      Option.bind (f103 F 0 n x40 x41 x53 x59) fun (x72, x73) =>
      f91_p1_7 F rec 0 n k x72 x41 x48 x43 x44 x73
  else
    Option.bind (f104 F 0 n x40 x41 x53 x59) fun (x74, x75, x76) =>
    Option.bind (f91_p10_1 F rec 0 n x40 x41 x48 x75 x74 x76) fun (x79, x80, x81, x82) =>
    f91_p1_7 F rec 0 n k x79 x80 x48 x81 x75 x82
theorem tail_ok {F n k a b p : Nat} {rec : Nat → Nat → Int → Int → Int → List Int → Option (List Int)} {lim : Int} {wb wp : Bool} {l : List Int} (hn : n < 100000) (hF : n + 1 < F) (hab : a + 1 < b) (hb : b ≤ n) (hlim : 0 ≤ lim ∧ lim ≤ 1000) (hr : Rec n (b - a) rec) (hk : Nxt F n k (b - a) rec)
    (hl : l.length = n) (hp : a ≤ p ∧ p < b) (hlow : Low a b l) : ∃ t, tail F rec n k a b lim p wb wp l = some t ∧ Mv a b l t ∧ So a b t := by
  have part : ∃ t, (Option.bind (f104 F 0 n a b p l) fun (x63, x64, x65) => Option.bind (f91_p10_1 F rec 0 n a b lim x64 x63 x65) fun (x68, x69, x70, x71) => f91_p1_7 F rec 0 n k x68 x69 lim x70 x64 x71) = some t ∧ Mv a b l t ∧ So a b t := by
    obtain ⟨m, z, r, m1, m2, m3, m4, m5, m6⟩ := f104_eq (F := F) hn hF hab hb hp hl
    rw [m1, Option.bind_some]
    dsimp only
    obtain ⟨t, t1, t2, t3⟩ := split_ok (F := F) (k := k) (z := z) (wp := z) hn hb hlim hr hk (by rw [m4.len, hl]) ⟨m2, m3⟩ (hlow.rg m4) m5 m6
    exact ⟨t, t1, m4.trans t2, t3⟩
  unfold tail
  by_cases h0 : 0 < a
  · rw [if_pos (by simp; omega), wm h0 (by omega), rq (by omega), ld (by omega), Option.bind_some, rq (by omega), ld (by omega), Option.bind_some, f102_eq, Option.bind_some]
    by_cases hlt : nt l (a - 1) < nt l p
    · rw [if_pos (decide_eq_true hlt)]; exact part
    · rw [if_neg (by simpa using hlt)]
      obtain ⟨m, r, m1, m2, m3, m4, m5, m6⟩ := f103_eq (F := F) hn hF (by omega) hb hp hl
      have hpa : nt l p = nt l (a - 1) := by
        have := hlow h0 p hp.1 hp.2
        omega
      have hlr : r.length = n := by rw [m4.len, hl]
      have hlow2 := hlow.rg m4
      have ea : nt r (a - 1) = nt l (a - 1) := m4.out _ (by omega)
      have heq : ∀ q, a ≤ q → q < m → nt r q = nt l p := fun q q1 q2 => by
        have := m5 q q1 q2
        have := hlow2 h0 q q1 (by omega)
        omega
      rw [m1, Option.bind_some]
      dsimp only
      obtain ⟨t, t1, t2, t3⟩ := hk m b lim wb wp r hlr m3 hb hlim (fun _ i i1 i2 => by
        rw [heq (m - 1) (by omega) (by omega)]
        have := m6 i i1 i2
        omega) (by omega)
      refine ⟨t, t1, m4.trans (t2.mono (by omega) (Nat.le_refl _)), So.glue2 (m := m) (fun i j i1 i2 i3 => ?_) t3 (fun i j i1 i2 i3 i4 => ?_)⟩
      · rw [t2.out i (by omega), t2.out j (by omega), heq i i1 (by omega), heq j (by omega) i3]; exact Int.le_refl _
      · rw [t2.out i (by omega), heq i i1 i2]
        obtain ⟨q, q1, q2, q3⟩ := t2.src j i3 i4
        rw [q3]
        have := m6 q q1 q2
        omega
  · rw [if_neg (by simp; omega)]; exact part
theorem round_ok {F n : Nat} {rec : Nat → Nat → Int → Int → Int → List Int → Option (List Int)} (hn : n < 100000) (hF : n + 1 < F) (hF5 : 5 < F) (hP : Pow F n) : ∀ (k w : Nat), Rec n w rec → w < k → Nxt F n k (w + 1) rec := by
  intro k
  induction k with
  | zero => intro w _ hw; omega
  | succ k ih =>
    intro w hr hw a b lim wb wp l hl hab hb hlim hlow hlt
    unfold f91_p1_7
    rw [wsub hab (by omega)]
    by_cases h12 : b - a ≤ 12
    · obtain ⟨r, r1, r2, r3⟩ := f96_srt (F := F) hn (by omega) hab hb hl
      rw [if_pos (by simp; omega), r1]
      exact ⟨r, rfl, r2, r3⟩
    · rw [if_neg (by simp; omega)]
      by_cases h0 : lim = 0
      · obtain ⟨r, r1, r2, r3⟩ := f97_srt (F := F) (a := a) (b := b) hn (by omega) (by omega) hb hl
        rw [if_pos (by simpa using h0), r1]
        exact ⟨r, rfl, r2, r3⟩
      · rw [if_neg (by simpa using h0)]
        have hr2 : Rec n (b - a) rec := fun a' b' lim' l' c1 c2 c3 c4 c5 c6 => hr a' b' lim' l' c1 c2 c3 c4 c5 (by omega)
        have hk2 : Nxt F n k (b - a) rec := fun a' b' lim' wb' wp' l' c1 c2 c3 c4 c5 c6 => by
          have hw' : b - a - 1 < k := by omega
          have hr3 : Rec n (b - a - 1) rec := fun a' b' lim' l' c1 c2 c3 c4 c5 c6 => hr a' b' lim' l' c1 c2 c3 c4 c5 (by omega)
          exact ih (b - a - 1) hr3 hw' a' b' lim' wb' wp' l' c1 c2 c3 c4 c5 (by omega)
        obtain ⟨lim2, l1, e1, e2, e3⟩ : ∃ lim2 l1, f91_p5_1 F 0 n a b lim wb wp l = some (lim2, l1) ∧ (0 ≤ lim2 ∧ lim2 ≤ 1000) ∧ Mv a b l l1 := by
          unfold f91_p5_1
          cases wb with
          | true => exact ⟨lim, l, rfl, hlim, Mv.refl⟩
          | false =>
            obtain ⟨r, r1, r2⟩ := f98_rg (F := F) hn (by omega) hP hab hb hl
            rw [if_neg (by decide), r1]
            exact ⟨_, r, rfl, by rw [w64_in (by omega)]; omega, r2⟩
        have hl1 : l1.length = n := by rw [e3.len, hl]
        obtain ⟨p, hint, p1, p2, p3⟩ := f99_eq (F := F) (a := a) (b := b) hn (by omega) hb hl1
        obtain ⟨q, hint2, l2, q1, q2, q3⟩ : ∃ (q : Nat) (hint2 : Int) (l2 : List Int), f91_p6_1 F 0 n a b lim2 wb wp p hint l1 = some ((q : Int), hint2, l2) ∧ (a ≤ q ∧ q < b) ∧ Mv a b l1 l2 := by
          unfold f91_p6_1
          by_cases hh : hint = 2
          · obtain ⟨r, r1, r2⟩ := f100_rg (F := F) (a := a) (b := b) hn (by omega) (by omega) hb hl1
            rw [if_pos (by simpa using hh), r1, wm (by omega) (by omega), wsub p2 (by omega), wsub (by omega) (by omega)]
            exact ⟨b - 1 - (p - a), 1, r, rfl, by omega, r2⟩
          · rw [if_neg (by simpa using hh)]
            exact ⟨p, hint, l1, rfl, ⟨p2, p3⟩, Mv.refl⟩
        have g2 := e3.trans q3
        have hl2 : l2.length = n := by rw [g2.len, hl]
        have fin : ∀ l3, Mv a b l l3 → ∃ t, tail F rec n k a b lim2 q wb wp l3 = some t ∧ Mv a b l t ∧ So a b t := fun l3 g3 => by
          obtain ⟨t, t1, t2, t3⟩ := tail_ok (F := F) (k := k) (wb := wb) (wp := wp) hn hF (by omega) hb e2 hr2 hk2 (l := l3) (by rw [g3.len, hl]) q2 (hlow.rg g3)
          exact ⟨t, t1, g3.trans t2, t3⟩
        rw [e1, Option.bind_some]
        dsimp only
        rw [p1, Option.bind_some]
        dsimp only
        rw [q1, Option.bind_some]
        dsimp only
        cases wb with
        | false => exact fin l2 g2
        | true =>
          cases wp with
          | false => exact fin l2 g2
          | true =>
            rw [if_pos rfl, if_pos rfl]
            obtain ⟨z, s, s1, s2, s3⟩ : ∃ (z : Bool) (s : List Int), f91_p7_1 F 0 n a b lim2 true true q hint2 l2 = some (if z then .c0 s else .c1 s) ∧ Mv a b l2 s ∧ (z = true → So a b s) := by
              unfold f91_p7_1
              by_cases hh : hint2 = 1
              · obtain ⟨z, s, s1, s2, s3⟩ := f101_eq (F := F) (a := a) (b := b) hn (by omega) hF5 (by omega) hb hl2 (hlow.rg g2)
                rw [if_pos (by simpa using hh), s1, Option.bind_some]
                refine ⟨z, s, ?_, s2, s3⟩
                cases z <;> rfl
              · rw [if_neg (by simpa using hh)]
                exact ⟨false, l2, rfl, Mv.refl, fun h => by cases h⟩
            rw [s1, Option.bind_some]
            cases z with
            | true => exact ⟨s, rfl, g2.trans s2, s3 rfl⟩
            | false => exact fin s (g2.trans s2)
theorem f91_sorts {F n : Nat} (hn : n < 100000) (hF : n + 1 < F) (hF5 : 5 < F) (hP : Pow F n) : ∀ (k : Nat), k ≤ F → Rec n k (f91 F k) := by
  intro k
  induction k with
  | zero => intro _ a b lim l _ _ _ _ _ h; omega
  | succ k ih =>
    intro hk a b lim l hl hab hb hlim hlow hlt
    obtain ⟨r, r1, r2, r3⟩ := round_ok (F := F) hn hF hF5 hP F k (ih (by omega)) (by omega) a b lim true true l hl hab hb hlim hlow hlt
    show ∃ r, f91_b F (f91 F k) 0 n a b lim l = some r ∧ _
    unfold f91_b
    rw [r1]
    exact ⟨r, rfl, r2, r3⟩
def Lim (F N : Nat) : Prop := ∀ n : Nat, n ≤ N → ∃ m : Int, f92 F (IntKind.wrap .u64 (n : Int)) = some m ∧ 0 ≤ m ∧ m ≤ 1000
def limOk (F N : Nat) : Bool := (List.range (N + 1)).all fun (n : Nat) => match f92 F (IntKind.wrap .u64 (n : Int)) with | some m => decide (0 ≤ m ∧ m ≤ 1000) | none => false
theorem Lim.of {F N : Nat} (h : limOk F N = true) : Lim F N := fun n hn => by
  have := (List.all_eq_true.1 h) n (List.mem_range.2 (by omega))
  cases e : f92 F (IntKind.wrap .u64 (n : Int)) with
  | none => rw [e] at this; cases this
  | some m =>
    rw [e] at this
    exact ⟨m, rfl, of_decide_eq_true this⟩
theorem lim2000 : Lim 2000 60 := Lim.of (by decide +kernel)
theorem sort_some {F : Nat} {l : List Int} (hl : l.length ≤ 60) (hF : 100 ≤ F) (hP : Pow F 60) (hL : Lim F 60) : ∃ r, f81 F l = some r ∧ r.Perm l ∧ r.Pairwise (· ≤ ·) := by
  obtain ⟨m, m1, m2⟩ := hL l.length hl
  obtain ⟨r, r1, r2, r3⟩ := f91_sorts (F := F) (n := l.length) (by omega) (by omega) (by omega) (fun n h0 hn => hP n h0 (by omega)) F (Nat.le_refl _) 0 l.length m l rfl (Nat.zero_le _) (Nat.le_refl _) m2 (fun h => absurd h (Nat.lt_irrefl 0)) (by omega)
  refine ⟨r, ?_, r2.perm, ?_⟩
  · unfold f81
    rw [m1, Option.bind_some, show f91 F F 0 l.length 0 (l.length : Nat) m l = some r from r1, Option.bind_some]
  · rw [List.pairwise_iff_getElem]
    intro i j hi hj hij
    have hlen := r2.len
    have := r3 i j (Nat.zero_le _) (by omega) (by omega)
    rwa [nt_get hi, nt_get hj] at this
end
section
end
section
def chkL : Int → List Int → Int
  | _, [] => 0
  | p, x :: r => if 1 ≤ x ∧ x ≤ 30 then (if x > p then 7 else chkL x r) else 1
def sm (l : List Int) : Int := l.foldr (· + ·) 0
def chk (l : List Int) : Int := if chkL 30 l ≠ 0 then chkL 30 l else if sm l > 30 then 3 else 0
theorem sm_cons (x : Int) (r : List Int) : sm (x :: r) = x + sm r := rfl
theorem chkL_sm : ∀ (l : List Int) (p : Int), chkL p l = 0 → l.length ≤ sm l ∧ sm l ≤ 30 * l.length := by
  intro l
  induction l with
  | nil => intro _ _; exact ⟨by decide, by decide⟩
  | cons x r ih =>
    intro p h
    simp only [chkL] at h
    split at h
    · split at h
      · cases h
      · have := ih _ h
        rw [sm_cons]; simp only [List.length_cons]; omega
    · cases h
theorem f34_p1_eq {F : Nat} {l : List Int} (hl : l.length ≤ 100) : ∀ (k i : Nat) (p s : Int), i ≤ l.length → l.length < k + i → 0 ≤ s → s ≤ 31 →
    ∃ z, f34_p1 F l k p s i = some z ∧ (chkL p (l.drop i) ≠ 0 → z = .c0 (chkL p (l.drop i))) ∧ (chkL p (l.drop i) = 0 → z = .c1 (if 31 < s + sm (l.drop i) then 31 else s + sm (l.drop i))) := by
  intro k
  induction k with
  | zero => intro i p s _ h; omega
  | succ k ih =>
    intro i p s h1 h2 h3 h4
    unfold f34_p1
    by_cases hi : i < l.length
    · rw [if_pos (by simp; omega), at_of (List.getElem?_eq_getElem hi), drop_cons hi]
      simp only [Option.bind_some, f57_eq, decide_eq_true_eq, chkL]
      by_cases hx : 1 ≤ l[i] ∧ l[i] ≤ 30
      · rw [if_pos hx, if_pos hx]
        by_cases hp : l[i] > p
        · rw [if_pos hp, if_pos hp]
          exact ⟨_, rfl, fun _ => rfl, fun h => by cases h⟩
        · rw [if_neg hp, if_neg hp, show w64 ((i : Int) + 1) = ((i + 1 : Nat) : Int) by rw [w64_in (by omega)]; omega, w64_in (n := s + l[i]) (by omega)]
          obtain ⟨z, e1, e2, e3⟩ := ih (i + 1) l[i] (if 31 < s + l[i] then 31 else s + l[i]) (by omega) (by omega) (by split <;> omega) (by split <;> omega)
          refine ⟨z, e1, e2, fun h => ?_⟩
          rw [e3 h, sm_cons]
          have := chkL_sm _ _ h
          congr 1
          split <;> split <;> split <;> omega
      · rw [if_neg hx, if_neg hx]
        exact ⟨_, rfl, fun _ => rfl, fun h => by cases h⟩
    · rw [if_neg (by simp; omega), List.drop_eq_nil_of_le (by omega)]
      refine ⟨_, rfl, fun h => absurd rfl h, fun _ => ?_⟩
      simp only [sm, List.foldr_nil, Int.add_zero]
      rw [if_neg (by omega)]
theorem f34_eq {F : Nat} {l : List Int} (hl : l.length ≤ 100) (hF : 200 ≤ F) : f34 F l = some (chk l) := by
  obtain ⟨z, e1, e2, e3⟩ := f34_p1_eq (F := F) hl F 0 30 0 (by omega) (by omega) (by omega) (by omega)
  unfold f34 chk
  rw [show (0 : Int) = ((0 : Nat) : Int) from rfl] at e1 ⊢
  rw [show (((0 : Nat) : Int)) = 0 from rfl] at e1 ⊢
  rw [show f34_p1 F l F 30 0 0 = some z from e1, Option.bind_some]
  rw [List.drop_zero] at e2 e3
  by_cases h : chkL 30 l = 0
  · rw [e3 h, if_neg (c := chkL 30 l ≠ 0) (fun hh => hh h)]
    simp only [decide_eq_true_eq]
    have := chkL_sm _ _ h
    rw [Int.zero_add]
    by_cases hs : sm l > 30
    · rw [if_pos hs, if_pos (by split <;> omega)]
    · rw [if_neg hs, if_neg (by split <;> omega)]
  · rw [e2 h, if_pos h]
theorem f72_p1_eq {F : Nat} {l : List Int} (hl : l.length ≤ 100) (hx : ∀ x ∈ l, 1 ≤ x ∧ x ≤ 30) : ∀ (k i : Nat) (s : Int), i ≤ l.length → l.length < k + i → 0 ≤ s → s ≤ 100 * i → f72_p1 F l k s i = some (s + sm (l.drop i)) := by
  intro k
  induction k with
  | zero => intro i s _ h; omega
  | succ k ih =>
    intro i s h1 h2 h3 h4
    unfold f72_p1
    by_cases hi : i < l.length
    · have := hx _ (List.getElem_mem hi)
      rw [if_pos (by simp; omega), at_of (List.getElem?_eq_getElem hi), Option.bind_some, drop_cons hi, sm_cons]
      rw [show w64 ((i : Int) + 1) = ((i + 1 : Nat) : Int) by rw [w64_in (by omega)]; omega, w64_in (by omega), ih (i + 1) _ (by omega) (by omega) (by omega) (by omega)]
      congr 1; omega
    · rw [if_neg (by simp; omega), List.drop_eq_nil_of_le (by omega)]
      simp [sm]
theorem chkL_all : ∀ (l : List Int) (p : Int), chkL p l = 0 → ∀ x ∈ l, 1 ≤ x ∧ x ≤ 30 := by
  intro l
  induction l with
  | nil => intro _ _ x hx; cases hx
  | cons y r ih =>
    intro p h x hx
    simp only [chkL] at h
    split at h
    · split at h
      · cases h
      · rcases List.mem_cons.1 hx with rfl | hx
        · assumption
        · exact ih _ h x hx
    · cases h
theorem f72_eq {F : Nat} {l : List Int} (hl : l.length ≤ 100) (hF : 200 ≤ F) (hx : ∀ x ∈ l, 1 ≤ x ∧ x ≤ 30) : f72 F l = some (sm l) := by
  have h := f72_p1_eq (F := F) hl hx F 0 0 (by omega) (by omega) (by omega) (by omega)
  rw [Int.zero_add, List.drop_zero] at h
  unfold f72
  rw [show f72_p1 F l F 0 0 = some (sm l) from h, Option.bind_some]
end
section
/-- How many numbers are not below k. -/
def cge (k : Int) : List Int → Int
  | [] => 0
  | x :: r => (if x ≥ k then 1 else 0) + cge k r
theorem cge_bd (k : Int) : ∀ l : List Int, 0 ≤ cge k l ∧ cge k l ≤ l.length
  | [] => by simp [cge]
  | x :: r => by
    have := cge_bd k r
    simp only [cge, List.length_cons]
    split <;> omega
theorem chkL_le : ∀ (l : List Int) (p : Int), chkL p l = 0 → ∀ x ∈ l, x ≤ p := by
  intro l
  induction l with
  | nil => intro _ _ x hx; cases hx
  | cons y r ih =>
    intro p h x hx
    simp only [chkL] at h
    split at h
    · split at h
      · cases h
      · rcases List.mem_cons.1 hx with rfl | hx
        · omega
        · have := ih _ h x hx
          omega
    · cases h
theorem cge_zero : ∀ (l : List Int) (k : Int), (∀ x ∈ l, x < k) → cge k l = 0 := by
  intro l
  induction l with
  | nil => intro _ _; rfl
  | cons y r ih =>
    intro k h
    have := h y (by simp)
    rw [cge, if_neg (by omega), ih k (fun x hx => h x (by simp [hx]))]
    rfl
theorem cge_at : ∀ (l : List Int) (p k : Int) (n : Nat), chkL p l = 0 → n ≤ l.length → (∀ h : n < l.length, l[n] < k) → (∀ h : n - 1 < l.length, 0 < n → l[n - 1] ≥ k) → cge k l = n := by
  intro l
  induction l with
  | nil => intro p k n _ h _ _; simp at h; subst h; rfl
  | cons y r ih =>
    intro p k n h hn h1 h2
    have hr : chkL y r = 0 := by
      simp only [chkL] at h
      split at h
      · split at h
        · cases h
        · exact h
      · cases h
    have hle := chkL_le _ _ hr
    match n, hn, h1, h2 with
    | 0, _, h1, _ =>
      have h1 := h1 (by simp)
      simp only [List.getElem_cons_zero] at h1
      refine cge_zero _ _ fun x hx => ?_
      rcases List.mem_cons.1 hx with rfl | hx
      · exact h1
      · have := hle x hx
        omega
    | n + 1, hn, h1, h2 =>
      simp only [List.length_cons] at hn
      have h2 := h2 (by simp; omega) (by omega)
      simp only [Nat.add_sub_cancel] at h2
      have hy : y ≥ k := by
        cases n with
        | zero => simpa using h2
        | succ n =>
          have : n < r.length := by omega
          simp only [List.getElem_cons_succ] at h2
          have := hle _ (List.getElem_mem this)
          omega
      rw [cge, if_pos hy, ih y k n hr (by omega) (fun h => by have := h1 (by simp; omega); simpa using this) (fun h h0 => ?_)]
      · omega
      · obtain ⟨m, rfl⟩ : ∃ m, n = m + 1 := ⟨n - 1, by omega⟩
        simpa using h2
def turn (l : List Int) (m : Nat) : List Int := (List.range m).map fun (j : Nat) => cge ((j : Int) + 1) l
theorem turn_len (l : List Int) (m : Nat) : (turn l m).length = m := by simp [turn]
theorem turn_succ (l : List Int) (m : Nat) : turn l (m + 1) = turn l m ++ [cge ((m : Int) + 1) l] := by simp [turn, List.range_succ]
theorem turn_add {l : List Int} {m : Nat} {n : Int} : ∀ d : Nat, (∀ j, m ≤ j → j < m + d → cge ((j : Int) + 1) l = n) → turn l (m + d) = turn l m ++ List.replicate d n := by
  intro d
  induction d with
  | zero => intro _; simp
  | succ d ih =>
    intro h
    rw [← Nat.add_assoc, turn_succ, ih (fun j h1 h2 => h j h1 (by omega)), h (m + d) (by omega) (by omega), List.replicate_succ', List.append_assoc]
theorem f61_p6_eq {F : Nat} {l : List Int} {n a b : Int} (hb : 0 ≤ b) (hab : b ≤ a) (ha : a ≤ 30) : ∀ (k i : Nat) (acc : List Int), (i : Int) ≤ a - b → a - b < k + i → acc.length ≤ 1000 + i →
    f61_p6_1 F l n a b k i acc = some (acc ++ List.replicate ((a - b).toNat - i) n) := by
  intro k
  induction k with
  | zero => intro i acc _ h; omega
  | succ k ih =>
    intro i acc h1 h2 h3
    unfold f61_p6_1
    rw [w64_in (n := a - b) (by omega)]
    by_cases hi : (i : Int) < a - b
    · rw [if_pos (by simpa using hi), req_pos (by simp; omega), show w64 ((i : Int) + 1) = ((i + 1 : Nat) : Int) by rw [w64_in (by omega)]; omega]
      rw [ih (i + 1) _ (by omega) (by omega) (by simp; omega)]
      rw [show (a - b).toNat - i = ((a - b).toNat - (i + 1)) + 1 by omega, List.replicate_succ, List.append_assoc]
      rfl
    · rw [if_neg (by simpa using hi), show (a - b).toNat - i = 0 by omega]
      simp
def nxt (l : List Int) (n : Nat) : Int := (l[n]?.getD 0)
theorem nxt_lt {l : List Int} {n : Nat} (h : n < l.length) : nxt l n = l[n] := by simp [nxt, List.getElem?_eq_getElem h]
theorem nxt_ge {l : List Int} {n : Nat} (h : l.length ≤ n) : nxt l n = 0 := by simp [nxt, List.getElem?_eq_none h]
theorem chkL_step : ∀ (l : List Int) (p : Int), chkL p l = 0 → ∀ n, (h : n + 1 < l.length) → l[n + 1] ≤ l[n] := by
  intro l
  induction l with
  | nil => intro _ _ n h; simp at h
  | cons y r ih =>
    intro p h n hn
    have hr : chkL y r = 0 := by
      simp only [chkL] at h
      split at h
      · split at h
        · cases h
        · exact h
      · cases h
    cases n with
    | zero =>
      simp only [List.getElem_cons_succ, List.getElem_cons_zero]
      exact chkL_le _ _ hr _ (List.getElem_mem _)
    | succ n =>
      simp only [List.getElem_cons_succ]
      exact ih y hr n (by simpa using hn)
theorem f61_p1_eq {F : Nat} (hF : 200 ≤ F) {l : List Int} (hl : l.length ≤ 100) (hc : chkL 30 l = 0) : ∀ (k n : Nat), n ≤ l.length → n < k →
    f61_p1 F l k n (turn l (nxt l n).toNat) = some (turn l (nxt l 0).toNat) := by
  have hx := chkL_all _ _ hc
  intro k
  induction k with
  | zero => intro n _ h; omega
  | succ k ih =>
    intro n h1 h2
    unfold f61_p1
    by_cases h0 : 0 < n
    · have hn : n - 1 < l.length := by omega
      have hx1 := hx _ (List.getElem_mem hn)
      have e1 : f61_p4_1 F l (turn l (nxt l n).toNat) n = some (nxt l n) := by
        unfold f61_p4_1
        by_cases h : n < l.length
        · rw [if_pos (by simp; omega), at_of (List.getElem?_eq_getElem h), Option.bind_some, nxt_lt h]
        · rw [if_neg (by simp; omega), nxt_ge (by omega)]
      have hle : nxt l n ≤ l[n - 1] ∧ 0 ≤ nxt l n := by
        by_cases h : n < l.length
        · rw [nxt_lt h]
          have := chkL_step _ _ hc (n - 1) (by omega)
          simp only [Nat.sub_add_cancel h0] at this
          have := hx _ (List.getElem_mem h)
          omega
        · rw [nxt_ge (by omega)]; omega
      rw [if_pos (by simp; omega), e1, Option.bind_some, show w64 ((n : Int) - 1) = ((n - 1 : Nat) : Int) by rw [w64_in (by omega)]; omega, at_of (List.getElem?_eq_getElem hn), Option.bind_some]
      have e2 := f61_p6_eq (F := F) (l := l) (n := (n : Int)) (a := l[n - 1]) (b := nxt l n) hle.2 hle.1 hx1.2 F 0 (turn l (nxt l n).toNat) (by omega) (by omega) (by rw [turn_len]; omega)
      rw [show f61_p6_1 F l n l[n - 1] (nxt l n) F 0 (turn l (nxt l n).toNat) = _ from e2, Option.bind_some]
      have e3 : turn l (nxt l n).toNat ++ List.replicate ((l[n - 1] - nxt l n).toNat - 0) (n : Int) = turn l (nxt l (n - 1)).toNat := by
        rw [nxt_lt hn, ← turn_add]
        · congr 1; omega
        · intro j hj1 hj2
          refine cge_at l 30 _ n hc h1 (fun h => ?_) (fun h _ => by omega)
          rw [nxt_lt h] at hj1
          have := hx _ (List.getElem_mem h)
          omega
      rw [e3]
      exact ih (n - 1) (by omega) (by omega)
    · have : n = 0 := by omega
      subst this
      rw [if_neg (by decide)]
theorem f61_eq {F : Nat} (hF : 200 ≤ F) {l : List Int} (hl : l.length ≤ 100) (hc : chkL 30 l = 0) : f61 F l = some (turn l (nxt l 0).toNat) := by
  have e := f61_p1_eq hF hl hc F l.length (Nat.le_refl _) (by omega)
  rw [nxt_ge (Nat.le_refl _), show turn l (Int.toNat 0) = [] from rfl] at e
  unfold f61
  rw [show f61_p1 F l F ((l.length : Nat) : Int) [] = _ from e, Option.bind_some, take0]
end
section
theorem f31_p2_eq {F : Nat} {a b : List Int} (hab : a.length = b.length) (ha : a.length ≤ 5000) : ∀ (k i : Nat), i ≤ a.length → a.length < k + i → f31_p2 F a b k i = some (if a.drop i = b.drop i then .c1 else .c0) := by
  intro k
  induction k with
  | zero => intro i _ h; omega
  | succ k ih =>
    intro i h1 h2
    unfold f31_p2
    by_cases hi : i < a.length
    · rw [if_pos (by simp; omega), at_of (List.getElem?_eq_getElem hi), at_of (List.getElem?_eq_getElem (by omega : i < b.length)), Option.bind_some, Option.bind_some]
      have e : (List.drop i a = List.drop i b) = (a[i] = b[i] ∧ List.drop (i + 1) a = List.drop (i + 1) b) := by rw [drop_cons hi, drop_cons (by omega : i < b.length), List.cons.injEq]
      simp only [e]
      by_cases he : a[i] = b[i]
      · rw [if_neg (by simp [he]), show w64 ((i : Int) + 1) = ((i + 1 : Nat) : Int) by rw [w64_in (by omega)]; omega, ih (i + 1) (by omega) (by omega)]
        simp only [he, true_and]
      · rw [if_pos (by simp [he]), if_neg (fun h => he h.1)]
    · rw [if_neg (by simp; omega), List.drop_eq_nil_of_le (by omega), List.drop_eq_nil_of_le (by omega)]
      rfl
theorem f31_eq {F : Nat} {a b : List Int} (ha : a.length < F) (hF : F ≤ 5000) : f31 F a b = some (decide (a = b)) := by
  unfold f31
  by_cases hab : a.length = b.length
  · have h := f31_p2_eq (F := F) hab (by omega) F 0 (by omega) (by omega)
    rw [List.drop_zero, List.drop_zero] at h
    rw [if_neg (by simp [hab]), show f31_p2 F a b F 0 = _ from h, Option.bind_some]
    by_cases he : a = b
    · rw [if_pos he, decide_eq_true he]
    · rw [if_neg he, decide_eq_false he]
  · rw [if_pos (by simp; omega), decide_eq_false (fun h => hab (by rw [h]))]

/- Number -/
end
section
end
section
/-- The square: how many numbers from here on are greater than their place. -/
def dur : Nat → List Int → Nat
  | i, [] => i
  | i, x :: r => if x ≥ (i : Int) + 1 then dur (i + 1) r else i
theorem dur_bd : ∀ (l : List Int) (i : Nat), i ≤ dur i l ∧ dur i l ≤ i + l.length
  | [], i => by simp [dur]
  | x :: r, i => by
    have := dur_bd r (i + 1)
    simp only [dur, List.length_cons]
    split <;> omega
theorem chkL_cons {p x : Int} {r : List Int} (h : chkL p (x :: r) = 0) : (1 ≤ x ∧ x ≤ 30) ∧ x ≤ p ∧ chkL x r = 0 := by
  simp only [chkL] at h
  split at h
  · rename_i hx
    split at h
    · cases h
    · exact ⟨hx, by omega, h⟩
  · cases h
theorem f74_stay {F : Nat} {l : List Int} (hl : l.length ≤ 100) (s : Int) : ∀ (k i : Nat) (p : Int), i ≤ l.length → l.length < k + i → chkL p (l.drop i) = 0 → p ≤ i → f74_p1 F l k s i = some s := by
  intro k
  induction k with
  | zero => intro i p _ h; omega
  | succ k ih =>
    intro i p h1 h2 hc hp
    unfold f74_p1
    by_cases hi : i < l.length
    · rw [drop_cons hi] at hc
      obtain ⟨c1, c2, c3⟩ := chkL_cons hc
      rw [if_pos (by simp; omega), at_of (List.getElem?_eq_getElem hi), Option.bind_some, f74_p4, if_neg (by simp; omega), Option.bind_some, show w64 ((i : Int) + 1) = ((i + 1 : Nat) : Int) by rw [w64_in (by omega)]; omega]
      exact ih (i + 1) _ (by omega) (by omega) c3 (by omega)
    · rw [if_neg (by simp; omega)]
theorem f74_p1_eq {F : Nat} {l : List Int} (hl : l.length ≤ 100) : ∀ (k i : Nat) (p : Int), i ≤ l.length → l.length < k + i → chkL p (l.drop i) = 0 → f74_p1 F l k i i = some ((dur i (l.drop i) : Nat) : Int) := by
  intro k
  induction k with
  | zero => intro i p _ h; omega
  | succ k ih =>
    intro i p h1 h2 hc
    unfold f74_p1
    by_cases hi : i < l.length
    · rw [drop_cons hi] at hc
      obtain ⟨c1, c2, c3⟩ := chkL_cons hc
      rw [if_pos (by simp; omega), at_of (List.getElem?_eq_getElem hi), Option.bind_some, f74_p4, show w64 ((i : Int) + 1) = ((i + 1 : Nat) : Int) by rw [w64_in (by omega)]; omega, drop_cons hi, dur]
      by_cases h : l[i] ≥ (i : Int) + 1
      · rw [if_pos (by simp; omega), if_pos h, Option.bind_some]
        exact ih (i + 1) _ (by omega) (by omega) c3
      · rw [if_neg (by simp; omega), if_neg h, Option.bind_some]
        exact f74_stay hl _ k (i + 1) _ (by omega) (by omega) c3 (by omega)
    · rw [if_neg (by simp; omega), List.drop_eq_nil_of_le (by omega)]
      rfl
theorem f74_eq {F : Nat} (hF : 200 ≤ F) {l : List Int} (hl : l.length ≤ 100) (hc : chkL 30 l = 0) : f74 F l = some ((dur 0 l : Nat) : Int) := by
  have e := f74_p1_eq (F := F) hl F 0 30 (by omega) (by omega) (by rw [List.drop_zero]; exact hc)
  rw [List.drop_zero] at e
  unfold f74
  rw [show f74_p1 F l F 0 0 = _ from e, Option.bind_some]
theorem chk_zero {l : List Int} (h : chk l = 0) : chkL 30 l = 0 ∧ sm l ≤ 30 := by
  unfold chk at h
  split at h
  · rename_i h2; exact absurd h h2
  · rename_i h2
    refine ⟨Classical.not_not.1 h2, ?_⟩
    split at h
    · cases h
    · omega

/- Square -/
def rgt (K : Nat) : List Int → List Int
  | [] => []
  | x :: r => if x > (K : Int) then (x - K) :: rgt K r else rgt K r
theorem rgt_len (K : Nat) : ∀ l : List Int, (rgt K l).length ≤ l.length
  | [] => by simp [rgt]
  | x :: r => by
    have := rgt_len K r
    simp only [rgt]
    split <;> simp only [List.length_cons] <;> omega
theorem f40_p2_eq {F K : Nat} {l : List Int} (hl : l.length ≤ 100) (hx : ∀ x ∈ l, 1 ≤ x ∧ x ≤ 30) (hK : K ≤ l.length) : ∀ (k i : Nat) (acc : List Int), i ≤ K → K < k + i → acc.length ≤ i →
    f40_p2 F l K k i acc = some (acc ++ rgt K ((l.take K).drop i)) := by
  have hlen : (List.take K l).length = K := by simp; omega
  intro k
  induction k with
  | zero => intro i acc _ h; omega
  | succ k ih =>
    intro i acc h1 h2 h3
    unfold f40_p2
    rw [Int.toNat_natCast, List.drop_zero, hlen]
    by_cases hi : i < K
    · have hi' : i < (List.take K l).length := by omega
      have hxi := hx _ (List.mem_of_mem_take (List.getElem_mem hi'))
      rw [if_pos (by simp; omega), at_of (List.getElem?_eq_getElem hi'), Option.bind_some, drop_cons hi', rgt, f40_p5_1, show w64 ((i : Int) + 1) = ((i + 1 : Nat) : Int) by rw [w64_in (by omega)]; omega]
      by_cases h : (List.take K l)[i] > (K : Int)
      · rw [if_pos (by simpa using h), req_pos (by simp; omega), Option.bind_some, if_pos h, w64_in (by omega), ih (i + 1) _ (by omega) (by omega) (by simp; omega)]
        simp
      · rw [if_neg (by simpa using h), Option.bind_some, if_neg h, ih (i + 1) _ (by omega) (by omega) (by omega)]
    · rw [if_neg (by simp; omega), List.drop_eq_nil_of_le (by omega)]
      simp [rgt]
theorem f70_2m_eq {F : Nat} {l : List Int} (hl : l.length ≤ 1000) : f70_2m F l = some l := by
  unfold f70_2m
  cases l with
  | nil => rfl
  | cons x r =>
    simp only [nilm, f70_2, Option.isNone_some, Option.getD_some]
    rw [if_neg (by decide), req_pos (by simp at hl ⊢; omega)]
    simp
theorem f76_look : ((List.range 31).all fun n => f76 2000 [(n : Int)] n == some (n, List.replicate n (n : Int))) = true := by decide +kernel
theorem f76_eq {n : Nat} (h : n ≤ 30) : f76 2000 [(n : Int)] n = some (n, List.replicate n (n : Int)) := by
  have := f76_look
  simp only [List.all_eq_true, List.mem_range, beq_iff_eq] at this
  exact this n (by omega)
theorem f42_p7_eq {F K : Nat} {b r : List Int} (hK : K ≤ 30) (hr : r.length ≤ K) (hx : ∀ x ∈ r, 1 ≤ x ∧ x ≤ 30) : ∀ (k i : Nat) (acc : List Int), i ≤ r.length → r.length < k + i → acc.length = i →
    f42_p7 F b K r k i (acc ++ List.replicate (K - i) (K : Int)) = some (acc ++ (r.drop i).map ((K : Int) + ·) ++ List.replicate (K - r.length) (K : Int)) := by
  intro k
  induction k with
  | zero => intro i acc _ h; omega
  | succ k ih =>
    intro i acc h1 h2 h3
    unfold f42_p7
    by_cases hi : i < r.length
    · have hxi := hx _ (List.getElem_mem hi)
      have hrep : List.replicate (K - i) (K : Int) = (K : Int) :: List.replicate (K - (i + 1)) (K : Int) := by rw [show K - i = (K - (i + 1)) + 1 by omega, List.replicate_succ]
      rw [if_pos (by simp; omega), at_of (List.getElem?_eq_getElem hi), Option.bind_some, req_pos (by omega), Int.toNat_natCast, Nat.zero_add, hrep]
      rw [List.getElem?_append_right (by omega), h3, Nat.sub_self, List.getElem?_cons_zero, Option.bind_some, req_pos (by simp; omega), w64_in (n := (K : Int) + r[i]) (by omega), show w64 ((i : Int) + 1) = ((i + 1 : Nat) : Int) by rw [w64_in (by omega)]; omega]
      rw [List.set_append_right _ _ (by omega), h3, Nat.sub_self, List.set_cons_zero]
      have := ih (i + 1) (acc ++ [(K : Int) + r[i]]) (by omega) (by omega) (by simp; omega)
      rw [List.append_assoc, List.singleton_append] at this
      rw [this, drop_cons hi]
      simp only [List.map_cons, List.append_assoc, List.cons_append, List.nil_append]
    · have : i = r.length := by omega
      subst this
      rw [if_neg (by simp), List.drop_eq_nil_of_le (by omega)]
      simp
theorem f42_p7_1_eq {F K : Nat} {b r : List Int} : ∀ (k : Nat) (i : Int) (acc : List Int), f42_p7_1 F b K r k i acc = f42_p7 F b K r k i acc := by
  intro k
  induction k with
  | zero => intro _ _; rfl
  | succ k ih => intro i acc; simp only [f42_p7_1, f42_p7, ih]
end
section
/-- A descending list of numbers from 1 to 30, by its places. -/
theorem chkL_of : ∀ (l : List Int) (p : Int), (∀ i : Nat, i < l.length → 1 ≤ nxt l i ∧ nxt l i ≤ 30 ∧ nxt l i ≤ p ∧ nxt l (i + 1) ≤ nxt l i) → chkL p l = 0 := by
  intro l
  induction l with
  | nil => intro _ _; rfl
  | cons x r ih =>
    intro p h
    have h0 := h 0 (by simp)
    have e0 : nxt (x :: r) 0 = x := rfl
    rw [e0] at h0
    rw [chkL, if_pos (by omega), if_neg (by omega)]
    refine ih x fun i hi => ?_
    have hs := h (i + 1) (by simpa using hi)
    have e1 : ∀ j : Nat, nxt (x :: r) (j + 1) = nxt r j := fun j => by simp [nxt]
    rw [e1, e1] at hs
    refine ⟨hs.1, hs.2.1, ?_, hs.2.2.2⟩
    clear hs
    induction i with
    | zero =>
      have := h0.2.2.2
      rw [e1] at this
      exact this
    | succ i ih2 =>
      have := (h (i + 1) (by simp; omega)).2.2.2
      rw [e1, e1] at this
      have := ih2 (by omega)
      omega
theorem nxt_pos {l : List Int} (h : ∀ x ∈ l, 1 ≤ x ∧ x ≤ 30) {i : Nat} (hi : i < l.length) : 1 ≤ nxt l i ∧ nxt l i ≤ 30 := by
  rw [nxt_lt hi]; exact h _ (List.getElem_mem hi)
theorem nxt_nn {l : List Int} (h : ∀ x ∈ l, 1 ≤ x ∧ x ≤ 30) (i : Nat) : 0 ≤ nxt l i ∧ nxt l i ≤ 30 := by
  by_cases hi : i < l.length
  · have := nxt_pos h hi; omega
  · rw [nxt_ge (by omega)]; omega
theorem nxt_dn {l : List Int} {p : Int} (h : chkL p l = 0) (i : Nat) : nxt l (i + 1) ≤ nxt l i := by
  have hx := chkL_all _ _ h
  by_cases hi : i + 1 < l.length
  · rw [nxt_lt hi, nxt_lt (by omega)]; exact chkL_step l p h i hi
  · rw [nxt_ge (n := i + 1) (by omega)]; exact (nxt_nn hx i).1
theorem nxt_anti {l : List Int} {p : Int} (h : chkL p l = 0) (i : Nat) : ∀ d : Nat, nxt l (i + d) ≤ nxt l i
  | 0 => Int.le_refl _
  | d + 1 => Int.le_trans (nxt_dn h (i + d)) (nxt_anti h i d)
/-- Two lists of positive numbers that agree at all places are one. -/
theorem nxt_ext {a b : List Int} (ha : ∀ x ∈ a, 1 ≤ x ∧ x ≤ 30) (hb : ∀ x ∈ b, 1 ≤ x ∧ x ≤ 30) (h : ∀ i : Nat, nxt a i = nxt b i) : a = b := by
  have hlen : a.length = b.length := by
    rcases Nat.lt_trichotomy a.length b.length with h1 | h1 | h1
    · have := h a.length
      rw [nxt_ge (Nat.le_refl _)] at this
      have := nxt_pos hb h1
      omega
    · exact h1
    · have := h b.length
      rw [nxt_ge (l := b) (Nat.le_refl _)] at this
      have := nxt_pos ha h1
      omega
  refine List.ext_getElem hlen fun i h1 h2 => ?_
  rw [← nxt_lt h1, ← nxt_lt h2, h]
theorem nxt_turn {l : List Int} {m i : Nat} (h : i < m) : nxt (turn l m) i = cge ((i : Int) + 1) l := by
  rw [nxt_lt (by rw [turn_len]; exact h)]
  simp [turn]
/-- The bond of a division and its turned one. -/
theorem bond : ∀ (l : List Int) (p : Int) (i : Nat) (k : Int), chkL p l = 0 → 1 ≤ k → (cge k l ≥ (i : Int) + 1 ↔ nxt l i ≥ k) := by
  intro l
  induction l with
  | nil =>
    intro p i k _ hk
    rw [cge, nxt_ge (by simp)]
    constructor <;> intro h <;> omega
  | cons x r ih =>
    intro p i k h hk
    obtain ⟨c1, c2, c3⟩ := chkL_cons h
    have hle := chkL_le _ _ c3
    match i with
    | 0 =>
      rw [show nxt (x :: r) 0 = x from rfl]
      by_cases hx : x ≥ k
      · rw [cge, if_pos hx]
        have := (cge_bd k r).1
        constructor <;> intro _ <;> omega
      · rw [cge, if_neg hx, cge_zero r k (fun y hy => by have := hle y hy; omega)]
        constructor <;> intro _ <;> omega
    | i + 1 =>
      rw [show nxt (x :: r) (i + 1) = nxt r i by simp [nxt]]
      have := ih x i k c3 hk
      by_cases hx : x ≥ k
      · rw [cge, if_pos hx]
        constructor
        · intro h; exact this.1 (by omega)
        · intro h; have := this.2 h; omega
      · rw [cge, if_neg hx, cge_zero r k (fun y hy => by have := hle y hy; omega)]
        have hr : nxt r i ≤ x := by
          by_cases hi : i < r.length
          · rw [nxt_lt hi]; exact hle _ (List.getElem_mem hi)
          · rw [nxt_ge (by omega)]; omega
        constructor <;> intro _ <;> omega
theorem nxt_top {l : List Int} {p : Int} (h : chkL p l = 0) (i : Nat) : nxt l i ≤ nxt l 0 := by
  have := nxt_anti h 0 i
  rwa [Nat.zero_add] at this
def dv (l : List Int) : List Int := turn l (nxt l 0).toNat
theorem nxt_dv {l : List Int} (h : chkL 30 l = 0) (i : Nat) : nxt (dv l) i = cge ((i : Int) + 1) l := by
  have hx := chkL_all _ _ h
  have h0 := nxt_nn hx 0
  unfold dv
  by_cases hi : i < (nxt l 0).toNat
  · exact nxt_turn hi
  · rw [nxt_ge (by rw [turn_len]; omega)]
    have := (bond l 30 0 ((i : Int) + 1) h (by omega))
    have hb := cge_bd ((i : Int) + 1) l
    by_cases hc : cge ((i : Int) + 1) l ≥ 1
    · have := this.1 (by omega); omega
    · omega
theorem eq_of_ge {a b : Int} (h : ∀ k : Nat, a ≥ (k : Int) + 1 ↔ b ≥ (k : Int) + 1) (ha : 0 ≤ a) (hb : 0 ≤ b) : a = b := by
  rcases Int.lt_trichotomy a b with h1 | h1 | h1
  · have := (h a.toNat).2 (by omega); omega
  · exact h1
  · have := (h b.toNat).1 (by omega); omega
theorem dv_chk {l : List Int} (h : chkL 30 l = 0) (hl : l.length ≤ 30) : chkL 30 (dv l) = 0 := by
  have hx := chkL_all _ _ h
  have h0 := nxt_nn hx 0
  refine chkL_of _ _ fun i hi => ?_
  have hi' : i < (nxt l 0).toNat := by rw [dv, turn_len] at hi; exact hi
  rw [nxt_dv h, nxt_dv h]
  have hb := cge_bd ((i : Int) + 1) l
  have h1 := (bond l 30 0 ((i : Int) + 1) h (by omega)).2 (by omega)
  refine ⟨by omega, by omega, by omega, ?_⟩
  have hb2 := cge_bd (((i + 1 : Nat) : Int) + 1) l
  by_cases hz : cge (((i + 1 : Nat) : Int) + 1) l = 0
  · omega
  · have e : cge (((i + 1 : Nat) : Int) + 1) l ≥ (((cge (((i + 1 : Nat) : Int) + 1) l).toNat - 1 : Nat) : Int) + 1 := by omega
    have := (bond l 30 _ _ h (by omega)).1 e
    have := (bond l 30 ((cge (((i + 1 : Nat) : Int) + 1) l).toNat - 1) ((i : Int) + 1) h (by omega)).2 (by omega)
    omega
theorem sm_append (a b : List Int) : sm (a ++ b) = sm a + sm b := by
  induction a with
  | nil => simp [sm]
  | cons x r ih => rw [List.cons_append, sm_cons, sm_cons, ih]; omega
theorem sm_turn : ∀ (l : List Int) (m : Nat), (∀ x ∈ l, 0 ≤ x ∧ x ≤ m) → sm (turn l m) = sm l := by
  have key : ∀ (x : Int) (r : List Int), 0 ≤ x → ∀ m : Nat, sm (turn (x :: r) m) = (if x < m then x else m) + sm (turn r m) := by
    intro x r h0 m
    induction m with
    | zero => rw [if_neg (by omega)]; rfl
    | succ m ih =>
      rw [turn_succ, turn_succ, sm_append, sm_append, ih, cge]
      simp only [sm, List.foldr_cons, List.foldr_nil]
      by_cases h1 : x ≥ (m : Int) + 1
      · rw [if_neg (by omega), if_pos h1, if_neg (by omega)]; omega
      · rw [if_neg h1, if_pos (show x < ((m + 1 : Nat) : Int) by omega)]
        split <;> omega
  intro l
  induction l with
  | nil =>
    intro m _
    have : ∀ m : Nat, sm (turn [] m) = 0 := fun m => by
      induction m with
      | zero => rfl
      | succ m ih => rw [turn_succ, sm_append, ih]; rfl
    exact this m
  | cons x r ih =>
    intro m h
    have hx := h x (by simp)
    rw [key x r (by omega), ih m (fun y hy => h y (by simp [hy])), sm_cons]
    split <;> omega
theorem sm_dv {l : List Int} (h : chkL 30 l = 0) : sm (dv l) = sm l := by
  have hx := chkL_all _ _ h
  refine sm_turn l _ fun x hm => ?_
  have := hx x hm
  obtain ⟨i, hi, rfl⟩ := List.getElem_of_mem hm
  have := nxt_top h i
  rw [nxt_lt hi] at this
  omega

/- Squares -/
theorem dur_at : ∀ (l : List Int) (p : Int) (i : Nat), chkL p l = 0 → (∀ j : Nat, i + j < dur i l → nxt l j ≥ (i + j : Nat) + 1) ∧ nxt l (dur i l - i) ≤ dur i l := by
  intro l
  induction l with
  | nil => intro p i _; simp only [dur]; refine ⟨fun j h => by omega, ?_⟩; rw [nxt_ge (by simp)]; omega
  | cons x r ih =>
    intro p i h
    obtain ⟨c1, c2, c3⟩ := chkL_cons h
    simp only [dur]
    by_cases hx : x ≥ (i : Int) + 1
    · rw [if_pos hx]
      obtain ⟨i1, i2⟩ := ih x (i + 1) c3
      have hb := dur_bd r (i + 1)
      refine ⟨fun j hj => ?_, ?_⟩
      · match j with
        | 0 => exact hx
        | j + 1 =>
          have := i1 j (by omega)
          rw [show nxt (x :: r) (j + 1) = nxt r j by simp [nxt]]
          omega
      · rw [show dur (i + 1) r - i = (dur (i + 1) r - (i + 1)) + 1 by omega, show ∀ j : Nat, nxt (x :: r) (j + 1) = nxt r j from fun j => by simp [nxt]]
        exact i2
    · rw [if_neg hx]
      refine ⟨fun j hj => by omega, ?_⟩
      rw [Nat.sub_self]
      show x ≤ _
      omega
theorem dur_spec {l : List Int} (h : chkL 30 l = 0) : (∀ j : Nat, j < dur 0 l → nxt l j ≥ (dur 0 l : Int)) ∧ nxt l (dur 0 l) ≤ dur 0 l := by
  obtain ⟨d1, d2⟩ := dur_at l 30 0 h
  refine ⟨fun j hj => ?_, by simpa using d2⟩
  have h1 := d1 (dur 0 l - 1) (by omega)
  have h2 := nxt_anti h j (dur 0 l - 1 - j)
  rw [show j + (dur 0 l - 1 - j) = dur 0 l - 1 by omega] at h2
  omega
theorem dur_uniq {l : List Int} (h : chkL 30 l = 0) {k : Nat} (h1 : ∀ j : Nat, j < k → nxt l j ≥ (k : Int)) (h2 : nxt l k ≤ k) : dur 0 l = k := by
  obtain ⟨d1, d2⟩ := dur_spec h
  rcases Nat.lt_trichotomy (dur 0 l) k with h3 | h3 | h3
  · have := h1 _ h3; omega
  · exact h3
  · have := d1 _ h3; omega
theorem dur_dv {l : List Int} (h : chkL 30 l = 0) (hl : l.length ≤ 30) : dur 0 (dv l) = dur 0 l := by
  obtain ⟨d1, d2⟩ := dur_spec h
  refine dur_uniq (dv_chk h hl) (fun j hj => ?_) ?_
  · rw [nxt_dv h]
    have := (bond l 30 (dur 0 l - 1) ((j : Int) + 1) h (by omega)).2 (by have := d1 (dur 0 l - 1) (by omega); omega)
    omega
  · rw [nxt_dv h]
    have := (bond l 30 (dur 0 l) ((dur 0 l : Int) + 1) h (by omega))
    by_cases hc : cge ((dur 0 l : Int) + 1) l ≥ (dur 0 l : Int) + 1
    · have := this.1 hc; omega
    · omega
theorem rgt_nxt (K : Nat) : ∀ (l : List Int) (p : Int), chkL p l = 0 → ∀ i : Nat, nxt (rgt K l) i = if nxt l i > (K : Int) then nxt l i - K else 0 := by
  intro l
  induction l with
  | nil => intro p _ i; rw [rgt, nxt_ge (by simp), if_neg (by omega)]
  | cons x r ih =>
    intro p h i
    obtain ⟨c1, c2, c3⟩ := chkL_cons h
    have hle := chkL_le _ _ c3
    by_cases hx : x > (K : Int)
    · rw [rgt, if_pos hx]
      match i with
      | 0 => show x - K = if x > (K : Int) then x - K else 0; rw [if_pos hx]
      | i + 1 =>
        rw [show ∀ (y : Int) (s : List Int), nxt (y :: s) (i + 1) = nxt s i from fun y s => by simp [nxt], show ∀ (y : Int) (s : List Int), nxt (y :: s) (i + 1) = nxt s i from fun y s => by simp [nxt]]
        exact ih x c3 i
    · rw [rgt, if_neg hx, ih x c3 i]
      have hr : ∀ j : Nat, nxt r j ≤ x := fun j => by
        by_cases hi : j < r.length
        · rw [nxt_lt hi]; exact hle _ (List.getElem_mem hi)
        · rw [nxt_ge (by omega)]; omega
      have h1 : nxt (x :: r) i ≤ x := by
        match i with
        | 0 => exact Int.le_refl _
        | i + 1 => rw [show nxt (x :: r) (i + 1) = nxt r i by simp [nxt]]; exact hr i
      have := hr i
      rw [if_neg (by omega), if_neg (by omega)]
theorem nxt_take {l : List Int} {K i : Nat} : nxt (l.take K) i = if i < K then nxt l i else 0 := by
  unfold nxt
  rw [List.getElem?_take]
  split <;> rfl
theorem nxt_drop {l : List Int} {K i : Nat} : nxt (l.drop K) i = nxt l (K + i) := by
  unfold nxt
  rw [List.getElem?_drop]
theorem take_chk {l : List Int} (h : chkL 30 l = 0) (K : Nat) : chkL 30 (l.take K) = 0 := by
  have hx := chkL_all _ _ h
  refine chkL_of _ _ fun i hi => ?_
  have hi' : i < K ∧ i < l.length := by simp at hi; omega
  have := nxt_pos hx hi'.2
  have h2 := nxt_dn h i
  rw [nxt_take, nxt_take, if_pos hi'.1]
  refine ⟨by omega, by omega, by omega, ?_⟩
  split <;> omega
theorem drop_chk {l : List Int} (h : chkL 30 l = 0) (K : Nat) : chkL 30 (l.drop K) = 0 := by
  have hx := chkL_all _ _ h
  refine chkL_of _ _ fun i hi => ?_
  have hi' : K + i < l.length := by simp at hi; omega
  have := nxt_pos hx hi'
  have h2 := nxt_dn h (K + i)
  rw [nxt_drop, nxt_drop, show K + (i + 1) = K + i + 1 by omega]
  exact ⟨by omega, by omega, by omega, h2⟩
theorem rgt_chk {l : List Int} (h : chkL 30 l = 0) (K : Nat) : chkL 30 (rgt K l) = 0 := by
  have hx := chkL_all _ _ h
  refine chkL_of _ _ fun i hi => ?_
  have h2 := nxt_dn h i
  have h3 := nxt_nn hx i
  have hpos : ∀ (l : List Int) (i : Nat), i < (rgt K l).length → 1 ≤ nxt (rgt K l) i := by
    intro l
    induction l with
    | nil => intro i hi; simp [rgt] at hi
    | cons x r ih =>
      intro i hi
      by_cases hx : x > (K : Int)
      · rw [rgt, if_pos hx] at hi ⊢
        match i with
        | 0 => show 1 ≤ x - K; omega
        | i + 1 => rw [show ∀ (y : Int) (s : List Int), nxt (y :: s) (i + 1) = nxt s i from fun y s => by simp [nxt]]; exact ih i (by simpa using hi)
      · rw [rgt, if_neg hx] at hi ⊢
        exact ih i hi
  have h1 := hpos l i hi
  rw [rgt_nxt K l 30 h, rgt_nxt K l 30 h] at *
  refine ⟨h1, ?_, ?_, ?_⟩ <;> (repeat' split at *) <;> omega
/-- What is right of the square. -/
def rt (l : List Int) : List Int := rgt (dur 0 l) (l.take (dur 0 l))
def bl (l : List Int) : List Int := l.drop (dur 0 l)
theorem rt_chk {l : List Int} (h : chkL 30 l = 0) : chkL 30 (rt l) = 0 := rgt_chk (take_chk h _) _
theorem bl_chk {l : List Int} (h : chkL 30 l = 0) : chkL 30 (bl l) = 0 := drop_chk h _
theorem nxt_rt {l : List Int} (h : chkL 30 l = 0) (i : Nat) : nxt (rt l) i = if nxt l i > (dur 0 l : Int) then nxt l i - dur 0 l else 0 := by
  unfold rt
  rw [rgt_nxt _ _ 30 (take_chk h _), nxt_take]
  by_cases hi : i < dur 0 l
  · rw [if_pos hi]
  · rw [if_neg hi]
    have h1 := (dur_spec h).2
    have h2 := nxt_anti h (dur 0 l) (i - dur 0 l)
    rw [show dur 0 l + (i - dur 0 l) = i by omega] at h2
    rw [if_neg (by omega), if_neg (by omega)]
theorem bl_dv {l : List Int} (h : chkL 30 l = 0) (hl : l.length ≤ 30) : rt (dv l) = dv (bl l) := by
  have hc := dv_chk h hl
  have hbl : (bl l).length ≤ 30 := by unfold bl; simp; omega
  refine nxt_ext (chkL_all _ _ (rt_chk hc)) (chkL_all _ _ (dv_chk (bl_chk h) hbl)) fun i => ?_
  rw [nxt_rt hc, dur_dv h hl, nxt_dv h, nxt_dv (bl_chk h)]
  refine eq_of_ge (fun k => ?_) (by split <;> omega) (cge_bd _ _).1
  rw [bond (bl l) 30 k _ (bl_chk h) (by omega)]
  unfold bl
  rw [nxt_drop]
  have e := bond l 30 (dur 0 l + k) ((i : Int) + 1) h (by omega)
  have hb := cge_bd ((i : Int) + 1) l
  constructor
  · intro h1
    refine e.1 ?_
    split at h1 <;> omega
  · intro h1
    have := e.2 h1
    rw [if_pos (by omega)]
    omega
theorem rt_dv {l : List Int} (h : chkL 30 l = 0) (hl : l.length ≤ 30) : bl (dv l) = dv (rt l) := by
  have hc := dv_chk h hl
  have hrl : (rt l).length ≤ 30 := by have := rgt_len (dur 0 l) (l.take (dur 0 l)); unfold rt; simp at this; omega
  have hr := rt_chk h
  refine nxt_ext (chkL_all _ _ (bl_chk hc)) (chkL_all _ _ (dv_chk hr hrl)) fun i => ?_
  unfold bl
  rw [nxt_drop, dur_dv h hl, nxt_dv h, nxt_dv hr]
  refine eq_of_ge (fun k => ?_) (cge_bd _ _).1 (cge_bd _ _).1
  rw [bond (rt l) 30 k _ hr (by omega), nxt_rt h, bond l 30 k _ h (by omega)]
  constructor
  · intro h1
    rw [if_pos (by omega)]; omega
  · intro h1
    split at h1 <;> omega
/-- A square with what is beside and under it. -/
def jn (K : Nat) (r b : List Int) : List Int := r.map ((K : Int) + ·) ++ List.replicate (K - r.length) (K : Int) ++ b
theorem nxt_jn {K : Nat} {r b : List Int} (hr : r.length ≤ K) (i : Nat) : nxt (jn K r b) i = if i < K then (K : Int) + nxt r i else nxt b (i - K) := by
  unfold jn nxt
  by_cases h1 : i < r.length
  · rw [if_pos (by omega), List.append_assoc, List.getElem?_append_left (by simpa using h1), List.getElem?_map, List.getElem?_eq_getElem h1]
    rfl
  · by_cases h2 : i < K
    · rw [if_pos h2, List.append_assoc, List.getElem?_append_right (by simp; omega), List.getElem?_append_left (by simp; omega), List.getElem?_replicate, if_pos (by simp; omega), List.getElem?_eq_none (l := r) (by omega)]
      simp
    · rw [if_neg h2, List.getElem?_append_right (by simp; omega)]
      simp only [List.length_append, List.length_map, List.length_replicate]
      rw [show r.length + (K - r.length) = K by omega]
theorem jn_len {K : Nat} {r b : List Int} (hr : r.length ≤ K) : (jn K r b).length = K + b.length := by
  unfold jn; simp; omega
theorem rt_len {l : List Int} : (rt l).length ≤ dur 0 l := by
  have := rgt_len (dur 0 l) (l.take (dur 0 l))
  unfold rt
  simp at this
  omega
theorem jn_back {l : List Int} (h : chkL 30 l = 0) : jn (dur 0 l) (rt l) (bl l) = l := by
  have hx := chkL_all _ _ h
  have hd := dur_spec h
  have hb := dur_bd l 0
  refine List.ext_getElem (by rw [jn_len rt_len]; unfold bl; simp; omega) fun i h1 h2 => ?_
  rw [← nxt_lt h1, ← nxt_lt h2, nxt_jn rt_len, nxt_rt h]
  split
  · rename_i hi
    have := hd.1 i hi
    split <;> omega
  · unfold bl; rw [nxt_drop, show dur 0 l + (i - dur 0 l) = i by omega]
theorem jn_chk {K : Nat} {r b : List Int} (hr : chkL 30 r = 0) (hb : chkL 30 b = 0) (hrl : r.length ≤ K) (hb0 : nxt b 0 ≤ K) (hK : (K : Int) + nxt r 0 ≤ 30) : chkL 30 (jn K r b) = 0 := by
  have xr := chkL_all _ _ hr
  have xb := chkL_all _ _ hb
  refine chkL_of _ _ fun i hi => ?_
  rw [jn_len hrl] at hi
  rw [nxt_jn hrl, nxt_jn hrl]
  by_cases h1 : i < K
  · rw [if_pos h1]
    have a1 := nxt_top hr i
    have a2 := nxt_dn hr i
    have a3 := nxt_nn xr i
    refine ⟨by omega, by omega, by omega, ?_⟩
    split
    · omega
    · rw [show i + 1 - K = 0 by omega]; omega
  · rw [if_neg h1, if_neg (by omega)]
    have a1 := nxt_pos xb (i := i - K) (by omega)
    have a2 := nxt_dn hb (i - K)
    rw [show i + 1 - K = i - K + 1 by omega]
    exact ⟨by omega, by omega, by omega, a2⟩
theorem dur_jn {K : Nat} {r b : List Int} (hr : chkL 30 r = 0) (hb : chkL 30 b = 0) (hrl : r.length ≤ K) (hb0 : nxt b 0 ≤ K) (hK : (K : Int) + nxt r 0 ≤ 30) : dur 0 (jn K r b) = K := by
  have xr := chkL_all _ _ hr
  refine dur_uniq (jn_chk hr hb hrl hb0 hK) (fun j hj => ?_) ?_
  · rw [nxt_jn hrl, if_pos hj]; have := nxt_nn xr j; omega
  · rw [nxt_jn hrl, if_neg (by omega), Nat.sub_self]; exact hb0
theorem rt_jn {K : Nat} {r b : List Int} (hr : chkL 30 r = 0) (hb : chkL 30 b = 0) (hrl : r.length ≤ K) (hb0 : nxt b 0 ≤ K) (hK : (K : Int) + nxt r 0 ≤ 30) : rt (jn K r b) = r := by
  have hj := jn_chk hr hb hrl hb0 hK
  refine nxt_ext (chkL_all _ _ (rt_chk hj)) (chkL_all _ _ hr) fun i => ?_
  have xr := nxt_nn (chkL_all _ _ hr) i
  rw [nxt_rt hj, dur_jn hr hb hrl hb0 hK, nxt_jn hrl]
  by_cases hi : i < K
  · rw [if_pos hi]
    split <;> omega
  · rw [if_neg hi, nxt_ge (l := r) (by omega)]
    have := nxt_top hb (i - K)
    rw [if_neg (by omega)]
theorem bl_jn {K : Nat} {r b : List Int} (hr : chkL 30 r = 0) (hb : chkL 30 b = 0) (hrl : r.length ≤ K) (hb0 : nxt b 0 ≤ K) (hK : (K : Int) + nxt r 0 ≤ 30) : bl (jn K r b) = b := by
  unfold bl
  rw [dur_jn hr hb hrl hb0 hK]
  unfold jn
  rw [List.drop_append, List.drop_eq_nil_of_le (by simp; omega)]
  simp only [List.length_append, List.length_map, List.length_replicate]
  rw [show K - (r.length + (K - r.length)) = 0 by omega]
  simp
theorem sm_jn {K : Nat} {r b : List Int} (hrl : r.length ≤ K) : sm (jn K r b) = (K : Int) * K + sm r + sm b := by
  have hmap : ∀ l : List Int, sm (l.map ((K : Int) + ·)) = (K : Int) * l.length + sm l := by
    intro l
    induction l with
    | nil => simp [sm]
    | cons x t ih => rw [List.map_cons, sm_cons, sm_cons, ih, List.length_cons]; rw [show ((t.length + 1 : Nat) : Int) = (t.length : Int) + 1 by omega, Int.mul_add]; omega
  have hrep : ∀ n : Nat, sm (List.replicate n (K : Int)) = (K : Int) * n := by
    intro n
    induction n with
    | zero => simp [sm]
    | succ n ih => rw [List.replicate_succ, sm_cons, ih, show ((n + 1 : Nat) : Int) = (n : Int) + 1 by omega, Int.mul_add]; omega
  unfold jn
  rw [sm_append, sm_append, hmap, hrep]
  have : (K : Int) * (r.length : Int) + (K : Int) * ((K - r.length : Nat) : Int) = (K : Int) * K := by
    rw [← Int.mul_add]; congr 1; omega
  omega
end
section
theorem f25_eq {F : Nat} (hF : 200 ≤ F) {l : List Int} (hl : l.length ≤ 100) (h : chk l = 0) : f25 F l = some (dv l, 0) := by
  unfold f25
  rw [f34_eq hl hF, Option.bind_some, if_neg (by simp [h]), f61_eq hF hl (chk_zero h).1, Option.bind_some]
  rfl
theorem chk_of {l : List Int} (h : chkL 30 l = 0) (hs : sm l ≤ 30) : chk l = 0 := by
  unfold chk; rw [if_neg (by simp [h]), if_neg (by omega)]
theorem len30 {l : List Int} (h : chk l = 0) : l.length ≤ 30 ∧ 0 ≤ sm l ∧ sm l ≤ 30 := by
  obtain ⟨h1, h2⟩ := chk_zero h
  have := chkL_sm _ _ h1
  omega
theorem dv_chk0 {l : List Int} (h : chk l = 0) : chk (dv l) = 0 := by
  obtain ⟨h1, h2⟩ := chk_zero h
  have h3 := len30 h
  exact chk_of (dv_chk h1 h3.1) (by rw [sm_dv h1]; exact h2)
theorem sm_nn : ∀ (l : List Int), (∀ x ∈ l, 1 ≤ x ∧ x ≤ 30) → 0 ≤ sm l ∧ ∀ x ∈ l, x ≤ sm l := by
  intro l
  induction l with
  | nil => intro _; exact ⟨Int.le_refl 0, fun x hx => by cases hx⟩
  | cons y r ih =>
    intro h
    have h1 := h y (by simp)
    obtain ⟨i1, i2⟩ := ih (fun x hx => h x (by simp [hx]))
    rw [sm_cons]
    refine ⟨by omega, fun x hx => ?_⟩
    rcases List.mem_cons.1 hx with rfl | hx
    · omega
    · have := i2 x hx; omega
theorem f40_eq {F : Nat} (hF : 200 ≤ F) {l : List Int} (h : chk l = 0) : f40 F l = some ((dur 0 l : Int), rt l, bl l, 0) := by
  have hl := len30 h
  obtain ⟨hc, _⟩ := chk_zero h
  have hx := chkL_all _ _ hc
  have hd := dur_bd l 0
  have e1 := f40_p2_eq (F := F) (K := dur 0 l) (l := l) (by omega) hx (by omega) F 0 [] (by omega) (by omega) (by simp)
  unfold f40
  rw [f34_eq (by omega) hF, Option.bind_some, if_neg (by simp [h]), f74_eq hF (by omega) hc, Option.bind_some, req_pos (by omega), show f40_p2 F l _ F 0 [] = _ from e1, Option.bind_some, req_pos (by omega)]
  rw [Int.toNat_natCast, List.take_length, f70_2m_eq (by simp; omega), Option.bind_some]
  simp only [List.drop_zero, List.nil_append, Nat.zero_add, List.take_length]
  rfl
/-- What Join answers. -/
def joinA (K : Nat) (r b : List Int) : List Int × Int :=
  if (r.length : Int) > K then ([], 5) else if nxt b 0 > K then ([], 5) else if (K : Int) * K + sm r + sm b > 30 then ([], 3) else (jn K r b, 0)
theorem f42_eq {K : Nat} {r b : List Int} (hr : chk r = 0) (hb : chk b = 0) (hK : K ≤ 30) : f42 2000 K r b = some (joinA K r b) := by
  have hrl := len30 hr
  have hbl := len30 hb
  have hxr := chkL_all _ _ (chk_zero hr).1
  have hxb := chkL_all _ _ (chk_zero hb).1
  have hKK : 0 ≤ (K : Int) * K ∧ (K : Int) * K ≤ 900 := ⟨Int.mul_nonneg (by omega) (by omega), by
    have : (K : Int) * K ≤ 30 * 30 := Int.mul_le_mul (by omega) (by omega) (by omega) (by omega)
    omega⟩
  unfold f42 f42_p0 joinA
  simp only [f34_eq (l := r) (by omega) (F := 2000) (by omega), f34_eq (l := b) (by omega) (F := 2000) (by omega), Option.bind_some]
  simp only [hr, hb, beq_self_eq_true, if_true, Option.bind_some, bne_self_eq_false, Bool.false_eq_true, if_false, f57_eq, decide_eq_true_eq]
  rw [if_pos (by omega)]
  by_cases h4 : (r.length : Int) > K
  · simp only [if_pos h4]
  · simp only [if_neg h4]
    have e1 := f42_p7_eq (F := 2000) (K := K) (b := b) (r := r) hK (by omega) hxr 2000 0 [] (by omega) (by omega) rfl
    rw [List.drop_zero, List.nil_append, Nat.sub_zero, List.nil_append] at e1
    generalize hq : List.map (fun x => (K : Int) + x) r ++ List.replicate (K - r.length) (K : Int) = q at *
    have hj : jn K r b = q ++ b := by rw [← hq]; rfl
    have hql : q.length = K := by rw [← hq]; simp; omega
    have e1' : f42_p7 2000 b K r 2000 0 (List.replicate K (K : Int)) = some q := e1
    have e3' : f42_p7_1 2000 b K r 2000 0 (List.replicate K (K : Int)) = some q := by rw [f42_p7_1_eq]; exact e1
    have r1 : q.length + b.length ≤ 1099511627776 := by omega
    have w1 : w64 (w64 (w64 ((K : Int) * K) + sm r) + sm b) = (K : Int) * K + sm r + sm b := by
      rw [w64_in (n := (K : Int) * K) (by omega), w64_in (n := (K : Int) * K + sm r) (by omega), w64_in (by omega)]
    simp only [f72_eq (l := r) (by omega) (F := 2000) (by omega) hxr, f72_eq (l := b) (by omega) (F := 2000) (by omega) hxb, Option.bind_some, f76_eq (n := K) hK, e1', e3', req_pos r1, req_pos hql.symm, w1, decide_eq_true_eq]
    by_cases h5 : (b.length : Int) > 0
    · have hb0 : 0 < b.length := by omega
      have eat : at? b 0 = some b[0] := at_of (List.getElem?_eq_getElem hb0)
      simp only [if_pos h5, eat, Option.bind_some, nxt_lt hb0]
      by_cases h6 : b[0] > (K : Int)
      · simp only [if_pos h6]
      · simp only [if_neg h6]
        by_cases h7 : (K : Int) * K + sm r + sm b > 30
        · simp only [if_pos h7]
        · simp only [if_neg h7, hj, List.drop_zero, Nat.zero_add, List.take_length]
    · have hb0 : nxt b 0 = 0 := nxt_ge (by omega)
      simp only [if_neg h5]
      rw [if_neg (show ¬ nxt b 0 > (K : Int) by omega)]
      by_cases h7 : (K : Int) * K + sm r + sm b > 30
      · simp only [if_pos h7]
      · simp only [if_neg h7, hj, List.drop_zero, Nat.zero_add, List.take_length]
/-- Square and Join are the inverse of one another. -/
theorem sm_rb {l : List Int} (h : chkL 30 l = 0) : (dur 0 l : Int) * dur 0 l + sm (rt l) + sm (bl l) = sm l := by
  rw [← sm_jn rt_len, jn_back h]
theorem rb_chk {l : List Int} (h : chk l = 0) : chk (rt l) = 0 ∧ chk (bl l) = 0 := by
  obtain ⟨hc, hs⟩ := chk_zero h
  have e := sm_rb hc
  have a := (sm_nn _ (chkL_all _ _ (rt_chk hc))).1
  have b := (sm_nn _ (chkL_all _ _ (bl_chk hc))).1
  have c : 0 ≤ (dur 0 l : Int) * dur 0 l := Int.mul_nonneg (by omega) (by omega)
  exact ⟨chk_of (rt_chk hc) (by omega), chk_of (bl_chk hc) (by omega)⟩
theorem join_back {l : List Int} (h : chk l = 0) : f42 2000 (dur 0 l : Int) (rt l) (bl l) = some (l, 0) := by
  obtain ⟨hc, hs⟩ := chk_zero h
  obtain ⟨r1, r2⟩ := rb_chk h
  have hl := len30 h
  have hd := dur_bd l 0
  have e := sm_rb hc
  have hn : nxt (bl l) 0 ≤ (dur 0 l : Int) := by unfold bl; rw [nxt_drop]; exact (dur_spec hc).2
  have hrl : (rt l).length ≤ dur 0 l := rt_len
  rw [f42_eq r1 r2 (by omega)]
  unfold joinA
  rw [if_neg (by omega), if_neg (by omega), if_neg (by omega), jn_back hc]
end
section
theorem f53_p1_eq {F : Nat} {b : List Int} (hb : ∀ x ∈ b, 0 ≤ x ∧ x ≤ 255) : ∀ (k i : Nat) (q : Int) (acc : List Int), 0 ≤ q → q ≤ 30 → q < k → i ≤ 30 → acc.length = i → (∀ x ∈ acc, 1 ≤ x ∧ x ≤ 9) → i ≤ sm acc → sm acc + q ≤ 30 →
    ∃ l, f53_p1 F b k q i acc = some l ∧ (∀ x ∈ l, 1 ≤ x ∧ x ≤ 9) ∧ sm l ≤ sm acc + q ∧ (l.length : Int) ≤ sm l := by
  intro k
  induction k with
  | zero => intro i q acc _ _ h; omega
  | succ k ih =>
    intro i q acc h1 h2 h3 h4 h5 h6 h7 h8
    unfold f53_p1
    by_cases hi : i < b.length
    · have hx := hb _ (List.getElem_mem hi)
      have e0 : w64 b[i] = b[i] := w64_in (by omega)
      have hm := Int.tmod_nonneg 9 hx.1
      have hm2 := Int.tmod_lt_of_pos b[i] (show (0 : Int) < 9 by omega)
      rw [if_pos (by simp; omega), at_of (List.getElem?_eq_getElem hi), Option.bind_some, e0, w64_in (n := 1 + Int.tmod b[i] 9) (by omega)]
      generalize hv : 1 + Int.tmod b[i] 9 = v at *
      by_cases hq : v > q
      · rw [if_pos (by simpa using hq)]
        exact ⟨acc, rfl, h6, by omega, by omega⟩
      · rw [if_neg (by simpa using hq), req_pos (by simp; omega), w64_in (n := q - v) (by omega), show w64 ((i : Int) + 1) = ((i + 1 : Nat) : Int) by rw [w64_in (by omega)]; omega]
        have es : sm (acc ++ [v]) = sm acc + v := by rw [sm_append]; simp [sm]
        obtain ⟨l, g1, g2, g3, g4⟩ := ih (i + 1) (q - v) (acc ++ [v]) (by omega) (by omega) (by omega) (by omega) (by simp; omega) (fun x hx => by
          rcases List.mem_append.1 hx with hx | hx
          · exact h6 x hx
          · simp at hx; omega) (by omega) (by omega)
        exact ⟨l, g1, g2, by omega, g4⟩
    · rw [if_neg (by simp; omega)]
      exact ⟨acc, rfl, h6, by omega, by omega⟩
/-- The library turns a list round. -/
theorem f82_p1_eq {F n : Nat} {l : List Int} (hl : l.length = n) (hn : n ≤ 1000) : ∀ (k i : Nat) (r : List Int), i ≤ n → n + 2 ≤ 2 * k + 2 * i → r.length = n → (∀ j, j < n → nt r j = if j < i ∨ n ≤ j + i then nt l (n - 1 - j) else nt l j) → 2 * i ≤ n + 1 →
    ∃ r', f82_p1 F 0 n k i ((n : Int) - 1 - i) r = some r' ∧ r'.length = n ∧ ∀ j, j < n → nt r' j = nt l (n - 1 - j) := by
  intro k
  induction k with
  | zero => intro i r _ h _ _ _; omega
  | succ k ih =>
    intro i r h1 h2 h3 h4 h5
    unfold f82_p1
    by_cases hi : (i : Int) < (n : Int) - 1 - i
    · have e1 : (n : Int) - 1 - i = ((n - 1 - i : Nat) : Int) := by omega
      rw [if_pos (by simpa using hi), e1, req_pos (by omega), ld (by omega), Option.bind_some, req_pos (by omega), ld (by omega), Option.bind_some, rs (by omega), rtt (by omega), sw_eq, show w64 ((i : Int) + 1) = ((i + 1 : Nat) : Int) by rw [w64_in (by omega)]; omega, show w64 (((n - 1 - i : Nat) : Int) - 1) = (n : Int) - 1 - ((i + 1 : Nat) : Int) by rw [w64_in (by omega)]; omega]
      refine ih (i + 1) (sw r i (n - 1 - i)) (by omega) (by omega) (by rw [sw_len]; exact h3) (fun j hj => ?_) (by omega)
      rw [nt_sw (by omega) (by omega)]
      by_cases c1 : j = n - 1 - i
      · subst c1
        rw [if_pos rfl, if_pos (by omega), h4 i (by omega), if_neg (by omega)]
        congr 1; omega
      · rw [if_neg c1]
        by_cases c2 : j = i
        · subst c2
          rw [if_pos rfl, if_pos (by omega), h4 _ (by omega), if_neg (by omega)]
        · rw [if_neg c2, h4 j hj]
          by_cases c3 : j < i ∨ n ≤ j + i
          · rw [if_pos c3, if_pos (by omega)]
          · rw [if_neg c3, if_neg (by omega)]
    · rw [if_neg (by simpa using hi)]
      refine ⟨r, rfl, h3, fun j hj => ?_⟩
      rw [h4 j hj]
      by_cases c3 : j < i ∨ n ≤ j + i
      · rw [if_pos c3]
      · rw [if_neg c3]
        congr 1; omega
theorem f82_eq {F : Nat} {l : List Int} (hl : l.length ≤ 1000) (hF : 1000 ≤ F) : f82 F 0 l.length l = some l.reverse := by
  obtain ⟨r, e1, e2, e3⟩ := f82_p1_eq (F := F) (l := l) rfl hl F 0 l (by omega) (by omega) rfl (fun j hj => by rw [if_neg (by omega)]) (by omega)
  unfold f82
  rw [show w64 (((l.length : Nat) : Int) - 1) = (l.length : Int) - 1 - ((0 : Nat) : Int) by rw [w64_in (by omega)]; omega, show f82_p1 F 0 l.length F 0 _ l = some r from e1, Option.bind_some]
  congr 1
  refine List.ext_getElem (by rw [e2, List.length_reverse]) fun i h1 h2 => ?_
  have := e3 i (by omega)
  rw [nt_get h1, nt_get (by omega)] at this
  rw [this, List.getElem_reverse]
theorem sm_perm {a b : List Int} (h : a.Perm b) : sm a = sm b := by
  induction h with
  | nil => rfl
  | cons x _ ih => rw [sm_cons, sm_cons, ih]
  | swap x y l => simp only [sm_cons]; omega
  | trans _ _ i1 i2 => rw [i1, i2]
theorem chkL_desc : ∀ (l : List Int) (p : Int), l.Pairwise (· ≥ ·) → (∀ x ∈ l, 1 ≤ x ∧ x ≤ 30 ∧ x ≤ p) → chkL p l = 0 := by
  intro l
  induction l with
  | nil => intro _ _ _; rfl
  | cons x r ih =>
    intro p h1 h2
    obtain ⟨h3, h4⟩ := List.pairwise_cons.1 h1
    have hx := h2 x (by simp)
    rw [chkL, if_pos (by omega), if_neg (by omega)]
    refine ih x h4 fun y hy => ?_
    have a := h2 y (by simp [hy])
    have b := h3 y hy
    omega
theorem made_eq {b : List Int} {q : Int} (hb : ∀ x ∈ b, 0 ≤ x ∧ x ≤ 255) (hq : 0 ≤ q ∧ q ≤ 30) : ∃ l, f53 2000 b q = some l ∧ chk l = 0 ∧ sm l ≤ q := by
  obtain ⟨l, e1, e2, e3, e4⟩ := f53_p1_eq (F := 2000) hb 2000 0 q [] hq.1 hq.2 (by omega) (by omega) rfl (by simp) (by simp [sm]) (by simp [sm]; omega)
  have es : sm ([] : List Int) = 0 := rfl
  rw [es] at e3
  have hll : l.length ≤ 30 := by omega
  obtain ⟨r, r1, r2, r3⟩ := sort_some (F := 2000) (l := l) (by omega) (by omega) pow2000 lim2000
  have hlen : r.length = l.length := r2.length_eq
  have hrev : r.reverse.Perm l := (List.reverse_perm r).trans r2
  refine ⟨r.reverse, ?_, ?_, ?_⟩
  · unfold f53
    rw [show f53_p1 2000 b 2000 q 0 [] = some l from e1, Option.bind_some, r1, Option.bind_some, ← hlen, f82_eq (by omega) (by omega), Option.bind_some, req_pos (by simp)]
    rw [← List.length_reverse, take0]
  · refine chk_of (chkL_desc _ _ (List.pairwise_reverse.2 r3) fun x hx => ?_) ?_
    · have := e2 x (hrev.mem_iff.1 hx); omega
    · rw [sm_perm hrev]; omega
  · rw [sm_perm hrev]; omega
theorem f54_p1_eq {F : Nat} {l : List Int} (hl : l.length ≤ 100) (hx : ∀ x ∈ l, 1 ≤ x ∧ x ≤ 30) : ∀ (k i : Nat) (s : Int), i ≤ l.length → l.length < k + i → 0 ≤ s → s ≤ 100 * i → f54_p1 F l k s i = some (s + sm (l.drop i)) := by
  intro k
  induction k with
  | zero => intro i s _ h; omega
  | succ k ih =>
    intro i s h1 h2 h3 h4
    unfold f54_p1
    by_cases hi : i < l.length
    · have hxi := hx _ (List.getElem_mem hi)
      rw [if_pos (by simp; omega), at_of (List.getElem?_eq_getElem hi), Option.bind_some, w64_in (n := s + l[i]) (by omega), show w64 ((i : Int) + 1) = ((i + 1 : Nat) : Int) by rw [w64_in (by omega)]; omega, ih (i + 1) _ (by omega) (by omega) (by omega) (by omega), drop_cons hi, sm_cons]
      congr 1; omega
    · rw [if_neg (by simp; omega), List.drop_eq_nil_of_le (by omega)]
      simp [sm]
theorem f54_eq {F : Nat} (hF : 200 ≤ F) {l : List Int} (h : chk l = 0) : f54 F l = some (sm l) := by
  have hl := len30 h
  have e := f54_p1_eq (F := F) (l := l) (by omega) (chkL_all _ _ (chk_zero h).1) F 0 0 (by omega) (by omega) (by omega) (by omega)
  rw [List.drop_zero] at e
  unfold f54
  rw [show f54_p1 F l F 0 0 = _ from e, Option.bind_some, Int.zero_add]
theorem u8_mod {x : Int} (h : 0 ≤ x ∧ x ≤ 255) (n : Nat) (hn : 0 < n) : ∃ m : Nat, Int.tmod (w64 x) n = m ∧ m < n := by
  rw [w64_in (by omega)]
  have h1 := Int.tmod_nonneg (n : Int) h.1
  have h2 := Int.tmod_lt_of_pos x (show (0 : Int) < n by omega)
  exact ⟨(Int.tmod x n).toNat, by omega, by omega⟩
end

end Go.Gh.Bunch
